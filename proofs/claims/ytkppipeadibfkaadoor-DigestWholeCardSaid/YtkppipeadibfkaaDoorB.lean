/- The walks of package digest's block: RotateLeft32, right, block. Conditions: the table is laid; the block's bytes are read. -/
import Derived.Test.YtkppipeadibfkaaDoorA
namespace Go.Proofs.YtkppipeadibfkaaDoor
open Go.RowKit Go.Proofs.YtkppipeadibfkaaDoorW.PrintWords KB WG
set_option linter.unusedVariables false
set_option linter.unusedSimpArgs false
section
variable {P : Program} {op : Oper} {ρ : Operand → Value} {w : World}
theorem ex_nilck (x : Operand) (ho : op.op = .nilCheck x) (p : Addr) (hx : ρ x = .pointer (some p)) : (execOp ρ op).run P w = .ok (.value (.pointer (some p))) w := by
  unfold execOp
  simp only [ho, hx]
  rfl
theorem ex_neg (T : TypeId) (x : Operand) (ho : op.op = .unOp .neg T x) (k : IntKind) (m : Int) (hx : ρ x = .int k m) (r : Int) (hr : k.wrap (0 - m) = r) : (execOp ρ op).run P w = .ok (.value (.int k r)) w := by
  subst hr
  unfold execOp
  simp only [ho, hx]
  rfl
/-- The element of an array that lies at an address. -/
def ar? (P : Program) (t : TypeId) (n : Nat) : Bool := match P.underlying t with
  | some (.array m e) => Nat.beq m n && Nat.blt 1 m && (match P.info? e with | some i => Nat.beq i.size 1 | none => false)
  | _ => false
theorem ex_ixa (t : TypeId) (x y : Operand) (ho : op.op = .indexAddr t x y) (n : Nat) (ht : ar? P t n = true) (p : Addr) (hx : ρ x = .pointer (some p)) (k : IntKind) (i : Int) (hy : ρ y = .int k i) (j : Nat) (hj : i = (j : Int)) (hlt : j < n) (q : Addr) (hq : p.add j = q) : (execOp ρ op).run P w = .ok (.value (.pointer (some q))) w := by
  unfold ar? at ht
  cases hu : P.underlying t with
  | none => simp [hu] at ht
  | some d =>
    cases d with
    | array m e =>
      simp only [hu, Bool.and_eq_true] at ht
      obtain ⟨⟨h1, h2⟩, h3⟩ := ht
      obtain rfl := Nat.eq_of_beq_eq_true h1
      cases hi : P.info? e with
      | none => simp [hi] at h3
      | some inf =>
        simp only [hi] at h3
        have hs : (sizeOf e).run P w = .ok 1 w := by simp [sizeOf, typeInfo, hi, Nat.eq_of_beq_eq_true h3]
        subst hq hj
        have h4 : (j : Int) < (m : Int) := by omega
        unfold execOp
        simp only [ho, hx, hy, Instr.indexAt, Instr.sureAddr, asIntOf, Sem.run_bind, Sem.run_pure, Result.andThen_ok, run_underlying hu w]
        simp [hs, h4]
    | _ => simp [hu] at ht
/-- The element of an array's value. -/
theorem ex_ixv (t e : TypeId) (x y : Operand) (ho : op.op = .index t x y) (n : Nat) (hu : P.underlying t = some (.array n e)) (he : P.plainKey e = true) (h1 : (P.info? e).map (·.size) = some 1) (cs : Array Value) (hx : ρ x = .agg cs) (k : IntKind) (i : Int) (hy : ρ y = .int k i) (j : Nat) (hj : i = (j : Int)) (hlt : j < n) (v : Value) (hv : cs[j]? = some v) : (execOp ρ op).run P w = .ok (.value v) w := by
  subst hj
  obtain ⟨inf, hi, h2⟩ := Option.map_eq_some_iff.1 h1
  have hs : (sizeOf e).run P w = .ok 1 w := by simp [sizeOf, typeInfo, hi, h2]
  have h4 : (j : Int) < (n : Int) := by omega
  have hp := run_part_plain w he hv
  unfold execOp
  simp only [ho, hx, hy, Instr.index, asIntOf, Sem.run_bind, Sem.run_pure, Result.andThen_ok, run_underlying hu w]
  rw [if_pos ⟨by omega, h4⟩]
  simp [hs, hp]
theorem and31 : ∀ n : Nat, n < 32 → 0 < n → IntKind.u64.wrap ((BitVec.ofInt IntKind.u64.bits (18446744073709551616 - (n : Int)) &&& BitVec.ofInt IntKind.u64.bits 31).toNat : Int) = ((32 - n : Nat) : Int) := by decide +kernel
theorem ex_and31 (T T' : TypeId) (x y : Operand) (ho : op.op = .binOp .and T x y T') (n : Nat) (hx : ρ x = .int .u64 (18446744073709551616 - (n : Int))) (hy : ρ y = .int .u64 31) (h0 : 0 < n) (h1 : n < 32) : (execOp ρ op).run P w = .ok (.value (.int .u64 ((32 - n : Nat) : Int))) w := by
  have hb : (binOp .and T (.int .u64 (18446744073709551616 - (n : Int))) (.int .u64 31)).run P w = .ok (.int .u64 ((32 - n : Nat) : Int)) w := by
    rw [binOp_and]
    unfold Op.intBits
    simp only [Sem.run_pure]
    exact congrArg (fun z => Result.ok (Value.int .u64 z) w) (and31 n h1 h0)
  have hg : (eqGuard .and T x y (.int .u64 (18446744073709551616 - (n : Int))) (.int .u64 31)).run P w = .ok () w := by simp [eqGuard]
  unfold execOp
  simp only [ho, hx, hy, Sem.run_bind, hg, hb, Result.andThen_ok, Sem.run_pure]
end
theorem wrap_neg64 {n : Nat} (h0 : 0 < n) (h1 : n < 32) : IntKind.u64.wrap (-(n : Int)) = 18446744073709551616 - (n : Int) := by simp [IntKind.wrap, IntKind.bits, IntKind.signed]; omega
def zW64 : List Wd := List.replicate 64 0
def zW8 : List Wd := List.replicate 8 0
theorem z84 : ∀ w, (zeroValue 84).run Tryd.prog w = .ok (.agg (wcs zW64).toArray) w := fun _ => by kernel_rfl
theorem z74 : ∀ w, (zeroValue 74).run Tryd.prog w = .ok (.agg (wcs zW8).toArray) w := fun _ => by kernel_rfl
theorem kTab_len : kTab.length = 64 := rfl
/-- A hash's cells: its words, the rest, the number. -/
def hcs (h : List Wd) (sl : Value) (m : Int) : List Value := wcs h ++ [sl, .int .u64 m]
theorem hcs_words {h : List Wd} {sl : Value} {m : Int} {w : World} {p : Addr} (H : At w p (hcs h sl m)) : At w p (wcs h) := fun j v hv => H j v (by unfold hcs; rw [List.getElem?_append_left (List.getElem?_eq_some_iff.1 hv).1]; exact hv)
theorem hcs_get {h : List Wd} {sl : Value} {m : Int} {i : Nat} (hi : i < h.length) : (hcs h sl m)[i]? = some (wv (h.getD i 0)) := by unfold hcs; rw [List.getElem?_append_left (by rw [wcs_len]; exact hi)]; exact wcs_get hi
theorem hcs_arr {h : List Wd} {sl : Value} {m : Int} {i : Nat} (hi : i < h.length) : ((hcs h sl m).toArray)[i]? = some (wv (h.getD i 0)) := by rw [List.getElem?_toArray]; exact hcs_get hi
theorem hcs_set {h : List Wd} {sl : Value} {m : Int} {i : Nat} (x : Wd) (hi : i < h.length) : (hcs h sl m).take i ++ [wv x] ++ (hcs h sl m).drop (i + [wv x].length) = hcs (h.set i x) sl m := by
  have h1 := wcs_set h i x hi
  unfold hcs
  rw [List.take_append_of_le_length (by rw [wcs_len]; omega), List.drop_append_of_le_length (by rw [wcs_len]; simp; omega), ← List.append_assoc, h1]
theorem hcs_len {h : List Wd} {sl : Value} {m : Int} : (hcs h sl m).length = h.length + 2 := by simp [hcs, wcs_len]
/-- The world with the blocks ahead of one alone. -/
def cutW (w : World) (g : Nat) : World := { w with heap := w.heap.extract 0 g }
theorem cut_size {w : World} {g : Nat} (h : g < w.heap.size) : (cutW w g).heap.size = g := by simp [cutW]; omega
theorem cut_below {w : World} {g : Nat} (h : g < w.heap.size) : Below (cutW w g).heap.size (cutW w g) w := by
  refine ⟨rfl, rfl, rfl, by rw [cut_size h]; omega, fun k hk => ?_⟩
  rw [cut_size h] at hk
  show w.heap[k]? = (w.heap.extract 0 g)[k]?
  rw [Array.getElem?_extract]
  simp; omega
theorem cut_mm {w : World} {g : Nat} {cs : Array Value} {t : TypeId} (h : w.heap[g]? = some (.cells cs t (0, 0))) : Mm (cutW w g) w [⟨g, cs, t⟩] := by
  have hg := (Array.getElem?_eq_some_iff.1 h).1
  refine ⟨cut_below hg, fun i b hi => ?_, fun i b hi => ?_, fun i j b c hi hj _ => ?_⟩
  · match i, hi with
    | 0, hi => obtain rfl := Option.some.inj hi; exact h
  · match i, hi with
    | 0, hi => obtain rfl := Option.some.inj hi; rw [cut_size hg]; exact Nat.le_refl _
  · have h1 := (List.getElem?_eq_some_iff.1 hi).1
    have h2 := (List.getElem?_eq_some_iff.1 hj).1
    simp at h1 h2
    omega
theorem cut_at {w : World} {g : Nat} {p : Addr} {cs : List Value} (hg : g < w.heap.size) (hp : p.block < g) (h : At w p cs) : At (cutW w g) p cs := fun j v hv => by
  have h1 := h j v hv
  have hb : (cutW w g).heap[p.block]? = w.heap[p.block]? := ((cut_below hg).block p.block (by rw [cut_size hg]; exact hp)).symm
  have e : (p.add j).block = p.block := by unfold Addr.add; split <;> rfl
  rw [World.cell?_of_block (w := w) (w' := cutW w g) (a := p.add j) (by rw [e]; exact hb)]
  exact h1
theorem gw_below {w w1 w2 : World} {r : Option Nat} (h : w.grownBy w1 r) (hb : Below w1.heap.size w1 w2) : w.grownBy w2 r :=
  ⟨hb.os.trans h.os, hb.tape.trans h.tape, hb.output.trans h.output, Nat.le_trans h.size hb.size, fun k hk hne => (hb.block k (Nat.lt_of_lt_of_le hk h.size)).trans (h.block k hk hne)⟩
theorem gw_new {w w1 w2 : World} {r : Option Nat} {g : Nat} (h : w.grownBy w1 r) (hg : w1.grownBy w2 (some g)) (hl : w.heap.size ≤ g) : w.grownBy w2 r := h.andThen hg (fun j hj => .inl (by injection hj with hj; rw [← hj]; exact hl))
theorem gw_refl (w : World) (r : Option Nat) : w.grownBy w r := ⟨rfl, rfl, rfl, Nat.le_refl _, fun _ _ _ => rfl⟩
theorem at_grown {w w1 : World} {p : Addr} {cs : List Value} {g : Nat} (h : At w p cs) (hg : w.grownBy w1 (some g)) (hne : p.block ≠ g) : At w1 p cs := fun j v hv => by
  have h1 := h j v hv
  have e : (p.add j).block = p.block := by unfold Addr.add; split <;> rfl
  rw [hg.cell_far (p.add j) (World.block_lt_of_cell? w _ h1) (by rw [e]; intro h2; exact hne (Option.some.inj h2))]
  exact h1
theorem ret_none {P : Program} {n : Nat} {a : Act} {w : World} {L : List (Nat × Value)} {fn : Func} {R : Ending → World → Prop} (F : Fr n a L) (hr : fn.results = #[]) (h : R (.returned (.tuple #[])) w) : bodyPost P fn R .normal a w := bodyPost_end (results_none hr _ _ _) F.defers h
theorem sched_set {b : List By} {ws : List Wd} {t : Nat} (hws : ws = sched b t ++ List.replicate (64 - t) 0) (ht : t < 64) (x : Wd) (hx : x = nextW b (sched b t)) : ws.set t x = sched b (t + 1) ++ List.replicate (64 - (t + 1)) 0 := by
  rw [hws, List.set_append_right _ _ (by rw [sched_len]; exact Nat.le_refl _), sched_len, Nat.sub_self, show 64 - t = (64 - (t + 1)) + 1 by omega, List.replicate_succ, List.set_cons_zero, sched, hx, List.append_assoc]
  rfl
theorem sched_getD {b : List By} {t i : Nat} (hi : i < t) : (sched b t ++ List.replicate (64 - t) 0).getD i 0 = (sched b t).getD i 0 := by
  rw [List.getD_eq_getElem?_getD, List.getD_eq_getElem?_getD, List.getElem?_append_left (by rw [sched_len]; exact hi)]
theorem next_lo {b : List By} {t : Nat} (ht : t < 16) : nextW b (sched b t) = word b t := by unfold nextW; rw [sched_len, if_pos ht]
theorem next_hi {b : List By} {t : Nat} (ht : ¬ t < 16) : nextW b (sched b t) = (sched b t).getD (t - 16) 0 + lo0 ((sched b t).getD (t - 15) 0) + (sched b t).getD (t - 7) 0 + lo1 ((sched b t).getD (t - 2) 0) := by unfold nextW; rw [sched_len, if_neg ht]
/-- So many of the words have been added. -/
def addTo (h v : List Wd) (i : Nat) : List Wd := addW (h.take i) (v.take i) ++ h.drop i
theorem addTo_zero (h v : List Wd) : addTo h v 0 = h := by simp [addTo, addW]
theorem addTo_all {h v : List Wd} (hh : h.length = 8) (hv : v.length = 8) : addTo h v 8 = addW h v := by unfold addTo; rw [List.take_of_length_le (by omega), List.take_of_length_le (by omega), List.drop_eq_nil_of_le (by omega), List.append_nil]
theorem addTo_len {h v : List Wd} (hh : h.length = 8) (hv : v.length = 8) (i : Nat) : (addTo h v i).length = 8 := by unfold addTo addW; simp [List.length_zipWith]; omega
theorem addTo_get {h v : List Wd} {i : Nat} (hh : h.length = 8) (hv : v.length = 8) (hi : i < 8) : (addTo h v i).getD i 0 = h.getD i 0 := by
  unfold addTo addW
  rw [List.getD_eq_getElem?_getD, List.getD_eq_getElem?_getD, List.getElem?_append_right (by simp [List.length_zipWith]; omega)]
  simp [List.length_zipWith]
  congr 2
  omega
theorem addTo_step {h v : List Wd} {i : Nat} (hh : h.length = 8) (hv : v.length = 8) (hi : i < 8) : (addTo h v i).set i (h.getD i 0 + v.getD i 0) = addTo h v (i + 1) := by
  obtain ⟨a, ha⟩ : ∃ a, h[i]? = some a := ⟨_, List.getElem?_eq_getElem (by omega)⟩
  obtain ⟨c, hc⟩ : ∃ c, v[i]? = some c := ⟨_, List.getElem?_eq_getElem (by omega)⟩
  apply List.ext_getElem?
  intro j
  unfold addTo addW
  rw [List.getElem?_set]
  simp only [List.getElem?_append, List.getElem?_zipWith, List.length_append, List.length_zipWith, List.length_take, List.length_drop, List.getElem?_take, List.getElem?_drop, List.getD_eq_getElem?_getD]
  rcases Nat.lt_trichotomy j i with hj | rfl | hj
  · rw [if_neg (by omega), if_pos (by omega), if_pos (by omega), if_pos (by omega), if_pos (by omega), if_pos (by omega), if_pos (by omega)]
  · rw [if_pos rfl, if_pos (by omega), if_pos (by omega), if_pos (by omega), if_pos (by omega), ha, hc]; rfl
  · rw [if_neg (by omega), if_neg (by omega), if_neg (by omega)]
    congr 1
    omega
theorem region_anyM {P : Program} {w0 w : World} {H : List Blk} {ops : Array Oper} {R : Act → World → Prop} {a : Act} {id : Nat} (hm : P.follows .mixedOrders = true) (M : Mm w0 w H) (HS : List Blk) (hp : ∀ w', Mm w0 w' H → Mm w0 w' HS)
    (h : ∀ wD, Mm w0 wD H → Below w.heap.size w wD → wpAnyH P .any ops (Only R) (fun w' => Mm w0 w' HS) ops.size (Array.replicate ops.size false) a wD) : (Code.region id ops true).wp P (Only R) a w :=
  wp_region_held_drew (S := fun w' => Mm w0 w' HS) hm (hp _ M.drew) (fun _ => h _ M.drew (below_drew1 (Below.refl _ w)))
theorem region_anyL {P : Program} {w0 w : World} {H : List Blk} {ops : Array Oper} {R : Act → World → Prop} {a : Act} {id : Nat} (hm : P.follows .mixedOrders = true) (M : Mm w0 w H) (HS : List Blk) (hp : ∀ w', Mm w0 w' H → Mm w0 w' HS) (Lw : World → Prop) (hL : ∀ w', Mm w0 w' H → Lw w')
    (h : ∀ wD, Mm w0 wD H → Below w.heap.size w wD → wpAnyH P .any ops (Only R) (fun w' => Mm w0 w' HS ∧ Lw w') ops.size (Array.replicate ops.size false) a wD) : (Code.region id ops true).wp P (Only R) a w :=
  wp_region_held_drew (S := fun w' => Mm w0 w' HS ∧ Lw w') hm ⟨hp _ M.drew, hL _ M.drew⟩ (fun _ => h _ M.drew (below_drew1 (Below.refl _ w)))
/-- The words ahead of one are read. -/
def Low (w : World) (g : Nat) (ws : List Wd) (t : Nat) : Prop := ∀ i, i < t → w.cell? ⟨g, i, none⟩ = some (wv (ws.getD i 0))
theorem low_of {w : World} {g t : Nat} {ws : List Wd} (h : At w ⟨g, 0, none⟩ (wcs ws)) (ht : t ≤ ws.length) : Low w g ws t := fun i hi => by
  have := h i _ (wcs_get (by omega))
  rwa [addr_add, Nat.zero_add] at this
theorem low_set {w : World} {g t : Nat} {ws : List Wd} {x : Wd} (h : At w ⟨g, 0, none⟩ (wcs (ws.set t x))) (ht : t ≤ ws.length) : Low w g ws t := fun i hi => by
  have := h i _ (wcs_get (l := ws.set t x) (by rw [List.length_set]; omega))
  rw [addr_add, Nat.zero_add, List.getD_eq_getElem?_getD, List.getElem?_set_ne (by omega), ← List.getD_eq_getElem?_getD] at this
  exact this
theorem sz74 {l : List Wd} (h : l.length = 8) : (Tryd.prog.info? 74).map (·.size) = some ((wcs l).toArray).size := by
  rw [List.size_toArray, wcs_len, h]
  kernel_rfl
theorem sz_eq {l m : List Wd} (h : l.length = 8) (h2 : m.length = 8) : ((wcs l).toArray).size = ((wcs m).toArray).size := by rw [List.size_toArray, List.size_toArray, wcs_len, wcs_len, h, h2]
theorem parts8 {ρ : Operand → Value} {i1 i2 i3 i4 i5 i6 i7 i8 : Nat} {x1 x2 x3 x4 x5 x6 x7 x8 : Operand} {v1 v2 v3 v4 v5 v6 v7 v8 : Value} (h1 : ρ x1 = v1) (h2 : ρ x2 = v2) (h3 : ρ x3 = v3) (h4 : ρ x4 = v4) (h5 : ρ x5 = v5) (h6 : ρ x6 = v6) (h7 : ρ x7 = v7) (h8 : ρ x8 = v8) :
    (#[(i1, x1), (i2, x2), (i3, x3), (i4, x4), (i5, x5), (i6, x6), (i7, x7), (i8, x8)].map fun (i, x) => (i, ρ x)) = #[(i1, v1), (i2, v2), (i3, v3), (i4, v4), (i5, v5), (i6, v6), (i7, v7), (i8, v8)] := by subst h1 h2 h3 h4 h5 h6 h7 h8; simp
theorem db_cv_3_77_u64 : cv? Tryd.prog 3 77 .u64 = true := by kernel_rfl
set_option maxHeartbeats 4000000 in
set_option maxRecDepth 100000 in
theorem rot_any (x : Wd) (n : Nat) (h0 : 0 < n) (h1 : n < 32) (w : World) :
    Calls Tryd.prog 52 #[wv x, .int .i64 (-(n : Int))] w fun e w' => e = .returned (wv (rr x n)) ∧ Below w.heap.size w w' := by
 refine calls_start Tryd.func52 rfl rfl rfl (fun a F => ?_)
 have M : Mm w w [] := Mm.nil w
 refine wp_seq ?_
 refine wp_region_lit ?_
 refine list_val F (wn rfl) rfl rfl (.int .u32 0) (ex_assign _ rfl _ rfl) ?_; clear F a; intro a F
 refine wpList_nil ?_
 replace F : Fr 17 a [(0, wv x), (1, .int .i64 (-(n : Int))), (4, .int .u32 0)] := F.keep ⟨rfl, rfl, rfl, trivial⟩
 refine then_n ?_
 refine wp_seq ?_
 refine wp_region_lit ?_
 refine list_val F (wn rfl) rfl rfl (.int .i64 (-(n : Int))) (ex_move _ rfl _ (F.e rfl)) ?_; clear F a; intro a F
 refine list_val F (wn rfl) rfl rfl (.int .u64 (18446744073709551616 - (n : Int))) (ex_conv _ _ _ rfl _ .u64 db_cv_3_77_u64 _ (F.e rfl) _ (wrap_neg64 h0 h1)) ?_; clear F a; intro a F
 refine list_val F (wn rfl) rfl rfl (.int .u64 ((32 - n : Nat) : Int)) (ex_and31 _ _ _ _ rfl n (F.e rfl) rfl h0 h1) ?_; clear F a; intro a F
 refine list_val F (wn rfl) rfl rfl (.int .u64 ((32 - n : Nat) : Int)) (ex_assign _ rfl _ (F.e rfl)) ?_; clear F a; intro a F
 refine wpList_nil ?_
 replace F : Fr 17 a [(0, wv x), (1, .int .i64 (-(n : Int))), (4, .int .u32 0), (5, .int .u64 ((32 - n : Nat) : Int))] := F.keep ⟨rfl, rfl, rfl, rfl, trivial⟩
 refine then_n ?_
 refine wp_seq ?_
 refine wp_region_lit ?_
 refine list_val F (wn rfl) rfl rfl (wv x) (ex_move _ rfl _ (F.e rfl)) ?_; clear F a; intro a F
 refine list_val F (wn rfl) rfl rfl (.int .u64 ((32 - n : Nat) : Int)) (ex_move _ rfl _ (F.e rfl)) ?_; clear F a; intro a F
 refine list_val F (wn rfl) rfl rfl (wv (x <<< (32 - n))) (ex_shlw _ _ _ _ rfl x .u64 (32 - n) (F.e rfl) (F.e rfl) (Nat.ble_eq_true_of_le (by omega))) ?_; clear F a; intro a F
 refine list_val F (wn rfl) rfl rfl (wv x) (ex_move _ rfl _ (F.e rfl)) ?_; clear F a; intro a F
 refine list_val F (wn rfl) rfl rfl (.int .u64 ((32 - n : Nat) : Int)) (ex_move _ rfl _ (F.e rfl)) ?_; clear F a; intro a F
 refine list_val F (wn rfl) rfl rfl (.int .u64 ((n : Nat) : Int)) (ex_bin .sub _ _ _ _ rfl .u64 _ _ rfl (F.e rfl) _ (b_sub ((w_u64 (by omega) (by omega)).trans (by omega)))) ?_; clear F a; intro a F
 refine list_val F (wn rfl) rfl rfl (wv (x >>> n)) (ex_shrw _ _ _ _ rfl x .u64 n (F.e rfl) (F.e rfl) (Nat.ble_eq_true_of_le (by omega))) ?_; clear F a; intro a F
 refine list_val F (wn rfl) rfl rfl (wv ((x <<< (32 - n)) ||| (x >>> n))) (ex_bit .or (.inr (.inl rfl)) _ _ _ _ rfl (x <<< (32 - n)) (x >>> n) (F.e rfl) (F.e rfl)) ?_; clear F a; intro a F
 refine list_val F (wn rfl) rfl rfl (wv ((x <<< (32 - n)) ||| (x >>> n))) (ex_assign _ rfl _ (F.e rfl)) ?_; clear F a; intro a F
 refine wpList_nil ?_
 replace F : Fr 17 a [(0, wv x), (1, .int .i64 (-(n : Int))), (4, wv ((x <<< (32 - n)) ||| (x >>> n))), (5, .int .u64 ((32 - n : Nat) : Int))] := F.keep ⟨rfl, rfl, rfl, rfl, trivial⟩
 refine then_n ?_
 refine wp_ret ?_
 exact ret_tmp F rfl rfl ⟨rfl, M.bel⟩
theorem db_ent_52 : ent? Tryd.prog 52 = true := by kernel_rfl
set_option maxHeartbeats 4000000 in
set_option maxRecDepth 100000 in
theorem right_any (x : Wd) (n : Nat) (h0 : 0 < n) (h1 : n < 32) (w : World) :
    Calls Tryd.prog 51 #[wv x, .int .i64 ((n : Nat) : Int)] w fun e w' => e = .returned (wv (rr x n)) ∧ Below w.heap.size w w' := by
 refine calls_start Tryd.func51 rfl rfl rfl (fun a F => ?_)
 have M : Mm w w [] := Mm.nil w
 refine wp_seq ?_
 refine wp_region_lit ?_
 refine list_val F (wn rfl) rfl rfl (.int .u32 0) (ex_assign _ rfl _ rfl) ?_; clear F a; intro a F
 refine wpList_nil ?_
 replace F : Fr 9 a [(0, wv x), (1, .int .i64 ((n : Nat) : Int)), (4, .int .u32 0)] := F.keep ⟨rfl, rfl, rfl, trivial⟩
 refine then_n ?_
 refine wp_seq ?_
 refine wp_region_lit ?_
 refine list_val F (wn rfl) rfl rfl (wv x) (ex_move _ rfl _ (F.e rfl)) ?_; clear F a; intro a F
 refine list_val F (wn rfl) rfl rfl (.int .i64 ((n : Nat) : Int)) (ex_move _ rfl _ (F.e rfl)) ?_; clear F a; intro a F
 refine list_val F (wn rfl) rfl rfl (.int .i64 (-(n : Int))) (ex_neg _ _ rfl .i64 ((n : Nat) : Int) (F.e rfl) _ ((w_i64 (by omega) (by omega)).trans (by omega))) ?_; clear F a; intro a F
 refine list_do (wn rfl) (fun K hK => ?_)
 refine ow_call rfl rfl F 52 #[wv x, .int .i64 (-(n : Int))] (ex_call 52 _ _ rfl rfl db_ent_52 _ (map2 (F.e rfl) (F.e rfl))) (rot_any x n h0 h1 _) (fun e v hR => ?_)
 obtain ⟨he, hb⟩ := hR
 refine ⟨wv (rr x n), he, ?_⟩; clear he F a; intro a F
 refine hK _ _ ?_
 clear hK K
 replace M := M.below hb; clear hb; try clear w
 refine list_val F (wn rfl) rfl rfl (wv (rr x n)) (ex_assign _ rfl _ (F.e rfl)) ?_; clear F a; intro a F
 refine wpList_nil ?_
 replace F : Fr 9 a [(0, wv x), (1, .int .i64 ((n : Nat) : Int)), (4, wv (rr x n))] := F.keep ⟨rfl, rfl, rfl, trivial⟩
 refine then_n ?_
 refine wp_ret ?_
 exact ret_tmp F rfl rfl ⟨rfl, M.bel⟩
theorem dc_follows_mixedOrders : Tryd.prog.follows .mixedOrders = true := by kernel_rfl
theorem dc_sl_23_1 : sl? Tryd.prog 23 1 = true := by kernel_rfl
theorem dc_one_5 : one? Tryd.prog 5 = true := by kernel_rfl
theorem dc_cv_5_73_u32 : cv? Tryd.prog 5 73 .u32 = true := by kernel_rfl
theorem dc_ar_84_64 : ar? Tryd.prog 84 64 = true := by kernel_rfl
theorem dc_info_73_map_size_some_1 : (Tryd.prog.info? 73).map (·.size) = some 1 := by kernel_rfl
theorem dc_one_73 : one? Tryd.prog 73 = true := by kernel_rfl
theorem dc_ent_51 : ent? Tryd.prog 51 = true := by kernel_rfl
theorem dc_fa_82_0_0 : fa? Tryd.prog 82 0 0 = true := by kernel_rfl
theorem dc_row_74_8 : row? Tryd.prog 74 8 = true := by kernel_rfl
theorem dc_ar_74_8 : ar? Tryd.prog 74 8 = true := by kernel_rfl
theorem dc_plainKey_73 : Tryd.prog.plainKey 73 = true := by kernel_rfl
set_option maxHeartbeats 4000000 in
set_option maxRecDepth 100000 in
theorem build74 (a b c d e f g h : Wd) (w : World) : (Instr.build 74 #[(0, wv a), (1, wv b), (2, wv c), (3, wv d), (4, wv e), (5, wv f), (6, wv g), (7, wv h)]).run Tryd.prog w = .ok (.agg (wcs [a, b, c, d, e, f, g, h]).toArray) w := by kernel_rfl
set_option maxHeartbeats 8000000 in
set_option maxRecDepth 100000 in
theorem block_any (h : List Wd) (hh : h.length = 8) (sl : Value) (m : Int) (b : List By) (hbl : b.length = 64) (adb : Addr) (c : Nat) (g : Nat) (w : World) (hK : At (cutW w g) ⟨0, 0, none⟩ (wcs kTab)) (hB : At w adb (bcs b)) (hlt : adb.block < w.heap.size) (hne : adb.block ≠ g)
    (hblk : w.heap[g]? = some (.cells (hcs h sl m).toArray 82 (0, 0))) :
    Calls Tryd.prog 50 #[.pointer (some ⟨g, 0, none⟩), .slice (some adb) 64 c] w fun e w' => e = .returned (.tuple #[]) ∧ w.grownBy w' (some g) ∧ w'.heap[g]? = some (.cells (hcs (blk h b) sl m).toArray 82 (0, 0)) := by
 have G_ : w.grownBy w (some g) := gw_refl _ _
 refine calls_start Tryd.func50 rfl rfl rfl (fun a F => ?_)
 have M : Mm (cutW w g) w [⟨g, (hcs h sl m).toArray, 82⟩] := cut_mm hblk
 refine wp_seq ?_
 refine wp_region_lit ?_
 refine list_do (wn rfl) (fun K hK => ?_)
 refine ow_alloc F M rfl rfl 84 rfl (.agg (wcs zW64).toArray) z84 ((wcs zW64).toArray) rfl ?_
 clear F M a; intro a g4 v F M hb hg
 refine hK _ _ ?_
 clear hK K
 have lw_g4 : w.heap.size ≤ g4 := Nat.le_trans G_.size hg
 have K_G_ := G_
 have K_hB := hB
 replace G_ := gw_below G_ hb
 replace hB := hB.below hb
 have hz_g4 := hb; have lo_g4 := hg
 clear hb hg; try clear w
 refine wpList_nil ?_
 replace F : Fr 195 a [(0, .pointer (some ⟨g, 0, none⟩)), (1, .slice (some adb) 64 c), (4, .pointer (some ⟨g4, 0, none⟩))] := F.keep ⟨rfl, rfl, rfl, trivial⟩
 refine then_n ?_
 refine wp_seq ?_
 refine wp_seq ?_
 refine wp_region_lit ?_
 refine list_val F (wn rfl) rfl rfl (.int .i64 0) (ex_move _ rfl _ rfl) ?_; clear F a; intro a F
 refine wpList_nil ?_
 replace F : Fr 195 a [(0, .pointer (some ⟨g, 0, none⟩)), (1, .slice (some adb) 64 c), (4, .pointer (some ⟨g4, 0, none⟩)), (16, .int .i64 0)] := F.keep ⟨rfl, rfl, rfl, rfl, trivial⟩
 refine then_n ?_
 refine wp_block ?_
 clear hz_g4 lo_g4 K_G_ K_hB
 refine wp_loopN (fun mq ar wr => ∃ (t : Nat), ∃ (ws : List Wd), Fr 195 ar [(0, .pointer (some ⟨g, 0, none⟩)), (1, .slice (some adb) 64 c), (4, .pointer (some ⟨g4, 0, none⟩)), (16, .int .i64 t)] ∧ Mm (cutW w g) wr [⟨g4, (wcs ws).toArray, 84⟩, ⟨g, (hcs h sl m).toArray, 82⟩] ∧ w.grownBy wr (some g) ∧ At wr adb (bcs b) ∧ t ≤ 64 ∧ ws = sched b t ++ List.replicate (64 - t) 0 ∧ ws.length = 64 ∧ mq + t = 64) 64 ?_ ?_
 ·
  exact ⟨0, zW64, F.keep ⟨rfl, rfl, rfl, rfl, trivial⟩, (by refine M.pick' [0, 1] _ ?_ (by decide); exact ⟨rfl, rfl, trivial⟩), G_, hB, (Nat.zero_le _), rfl, rfl, (by omega)⟩
 clear F M a G_ hB
 rintro mq a u ⟨t, ws, F, M, G_, hB, ht1, hws, hwl, hq⟩; try clear v
 by_cases ht : t < 64
 ·
  by_cases h16 : t < 16
  ·
   refine wp_seq ?_
   refine wp_region_lit ?_
   refine list_val F (wn rfl) rfl rfl (.bool true) (ex_bin .lss _ _ _ _ rfl .i64 _ _ (F.e rfl) rfl _ (b_lss (decide_eq_true (by omega)))) ?_; clear F a; intro a F
   refine wpList_nil ?_
   replace F : Fr 195 a [(0, .pointer (some ⟨g, 0, none⟩)), (1, .slice (some adb) 64 c), (4, .pointer (some ⟨g4, 0, none⟩)), (16, .int .i64 t), (17, .bool true)] := F.keep ⟨rfl, rfl, rfl, rfl, rfl, trivial⟩
   refine then_n ?_
   refine wp_seq ?_
   refine wp_cond_true (F.e rfl) ?_
   refine wp_skip ?_
   refine then_n ?_
   refine wp_seq ?_
   refine wp_block ?_
   refine wp_seq ?_
   refine wp_region_lit ?_
   refine list_val F (wn rfl) rfl rfl (.int .i64 t) (ex_move _ rfl _ (F.e rfl)) ?_; clear F a; intro a F
   refine list_val F (wn rfl) rfl rfl (.int .i64 t) (ex_assign _ rfl _ (F.e rfl)) ?_; clear F a; intro a F
   refine wpList_nil ?_
   replace F : Fr 195 a [(0, .pointer (some ⟨g, 0, none⟩)), (1, .slice (some adb) 64 c), (4, .pointer (some ⟨g4, 0, none⟩)), (5, .int .i64 t), (16, .int .i64 t), (17, .bool true)] := F.keep ⟨rfl, rfl, rfl, rfl, rfl, rfl, trivial⟩
   refine then_n ?_
   refine wp_seq ?_
   refine wp_seq ?_
   refine wp_region_lit ?_
   refine list_val F (wn rfl) rfl rfl (.int .i64 t) (ex_move _ rfl _ (F.e rfl)) ?_; clear F a; intro a F
   refine list_val F (wn rfl) rfl rfl (.bool true) (ex_bin .lss _ _ _ _ rfl .i64 _ _ (F.e rfl) rfl _ (b_lss (decide_eq_true (by omega)))) ?_; clear F a; intro a F
   refine wpList_nil ?_
   replace F : Fr 195 a [(0, .pointer (some ⟨g, 0, none⟩)), (1, .slice (some adb) 64 c), (4, .pointer (some ⟨g4, 0, none⟩)), (5, .int .i64 t), (16, .int .i64 t), (17, .bool true), (20, .bool true)] := F.keep ⟨rfl, rfl, rfl, rfl, rfl, rfl, rfl, trivial⟩
   refine then_n ?_
   refine wp_cond_true (F.e rfl) ?_
   refine wp_seq ?_
   refine region_tail 35 dc_follows_mixedOrders (by kernel_rfl) M ?_; clear M; intro v M hb
   replace G_ := gw_below G_ hb
   replace hB := hB.below hb
   clear hb; try clear u
   refine still_val F (wn rfl) rfl rfl (.int .i64 t) (ex_move _ rfl _ (F.e rfl)) ?_; clear F a; intro a F
   refine still_val F (wn rfl) rfl rfl (.slice (some adb) 64 c) (ex_move _ rfl _ (F.e rfl)) ?_; clear F a; intro a F
   refine still_val F (wn rfl) rfl rfl (.int .i64 t) (ex_move _ rfl _ (F.e rfl)) ?_; clear F a; intro a F
   refine still_val F (wn rfl) rfl rfl (.int .i64 ((4 * t : Nat) : Int)) (ex_bin .mul _ _ _ _ rfl .i64 _ _ rfl (F.e rfl) _ (b_mul ((w_i64 (by omega) (by omega)).trans (by omega)))) ?_; clear F a; intro a F
   refine still_val F (wn rfl) rfl rfl (.pointer (some (adb.add (4 * t)))) (ex_ix _ _ _ rfl 1 dc_sl_23_1 adb _ _ (F.e rfl) .i64 _ (F.e rfl) (4 * t) rfl (by omega) _ (congrArg _ (Nat.mul_one _))) ?_; clear F a; intro a F
   refine still_val F (wn rfl) rfl rfl (bv (b.getD (4 * t) 0)) (ex_load _ _ rfl _ (F.e rfl) _ (lv1 dc_one_5 (At.cell hB (4 * t) _ (bcs_get (by omega))))) ?_; clear F a; intro a F
   refine still_val F (wn rfl) rfl rfl (wv (wide (b.getD (4 * t) 0))) (ex_wide _ _ _ rfl dc_cv_5_73_u32 (b.getD (4 * t) 0) (F.e rfl)) ?_; clear F a; intro a F
   refine still_val F (wn rfl) rfl rfl (wv ((wide (b.getD (4 * t) 0)) <<< 24)) (ex_shlw _ _ _ _ rfl (wide (b.getD (4 * t) 0)) .u64 24 (F.e rfl) rfl rfl) ?_; clear F a; intro a F
   refine still_val F (wn rfl) rfl rfl (.slice (some adb) 64 c) (ex_move _ rfl _ (F.e rfl)) ?_; clear F a; intro a F
   refine still_val F (wn rfl) rfl rfl (.int .i64 t) (ex_move _ rfl _ (F.e rfl)) ?_; clear F a; intro a F
   refine still_val F (wn rfl) rfl rfl (.int .i64 ((4 * t : Nat) : Int)) (ex_bin .mul _ _ _ _ rfl .i64 _ _ rfl (F.e rfl) _ (b_mul ((w_i64 (by omega) (by omega)).trans (by omega)))) ?_; clear F a; intro a F
   refine still_val F (wn rfl) rfl rfl (.int .i64 ((4 * t + 1 : Nat) : Int)) (ex_bin .add _ _ _ _ rfl .i64 _ _ (F.e rfl) rfl _ (b_add ((w_i64 (by omega) (by omega)).trans (by omega)))) ?_; clear F a; intro a F
   refine still_val F (wn rfl) rfl rfl (.pointer (some (adb.add (4 * t + 1)))) (ex_ix _ _ _ rfl 1 dc_sl_23_1 adb _ _ (F.e rfl) .i64 _ (F.e rfl) (4 * t + 1) rfl (by omega) _ (congrArg _ (Nat.mul_one _))) ?_; clear F a; intro a F
   refine still_val F (wn rfl) rfl rfl (bv (b.getD (4 * t + 1) 0)) (ex_load _ _ rfl _ (F.e rfl) _ (lv1 dc_one_5 (At.cell hB (4 * t + 1) _ (bcs_get (by omega))))) ?_; clear F a; intro a F
   refine still_val F (wn rfl) rfl rfl (wv (wide (b.getD (4 * t + 1) 0))) (ex_wide _ _ _ rfl dc_cv_5_73_u32 (b.getD (4 * t + 1) 0) (F.e rfl)) ?_; clear F a; intro a F
   refine still_val F (wn rfl) rfl rfl (wv ((wide (b.getD (4 * t + 1) 0)) <<< 16)) (ex_shlw _ _ _ _ rfl (wide (b.getD (4 * t + 1) 0)) .u64 16 (F.e rfl) rfl rfl) ?_; clear F a; intro a F
   refine still_val F (wn rfl) rfl rfl (wv (((wide (b.getD (4 * t) 0)) <<< 24) ||| ((wide (b.getD (4 * t + 1) 0)) <<< 16))) (ex_bit .or (.inr (.inl rfl)) _ _ _ _ rfl ((wide (b.getD (4 * t) 0)) <<< 24) ((wide (b.getD (4 * t + 1) 0)) <<< 16) (F.e rfl) (F.e rfl)) ?_; clear F a; intro a F
   refine still_val F (wn rfl) rfl rfl (.slice (some adb) 64 c) (ex_move _ rfl _ (F.e rfl)) ?_; clear F a; intro a F
   refine still_val F (wn rfl) rfl rfl (.int .i64 t) (ex_move _ rfl _ (F.e rfl)) ?_; clear F a; intro a F
   refine still_val F (wn rfl) rfl rfl (.int .i64 ((4 * t : Nat) : Int)) (ex_bin .mul _ _ _ _ rfl .i64 _ _ rfl (F.e rfl) _ (b_mul ((w_i64 (by omega) (by omega)).trans (by omega)))) ?_; clear F a; intro a F
   refine still_val F (wn rfl) rfl rfl (.int .i64 ((4 * t + 2 : Nat) : Int)) (ex_bin .add _ _ _ _ rfl .i64 _ _ (F.e rfl) rfl _ (b_add ((w_i64 (by omega) (by omega)).trans (by omega)))) ?_; clear F a; intro a F
   refine still_val F (wn rfl) rfl rfl (.pointer (some (adb.add (4 * t + 2)))) (ex_ix _ _ _ rfl 1 dc_sl_23_1 adb _ _ (F.e rfl) .i64 _ (F.e rfl) (4 * t + 2) rfl (by omega) _ (congrArg _ (Nat.mul_one _))) ?_; clear F a; intro a F
   refine still_val F (wn rfl) rfl rfl (bv (b.getD (4 * t + 2) 0)) (ex_load _ _ rfl _ (F.e rfl) _ (lv1 dc_one_5 (At.cell hB (4 * t + 2) _ (bcs_get (by omega))))) ?_; clear F a; intro a F
   refine still_val F (wn rfl) rfl rfl (wv (wide (b.getD (4 * t + 2) 0))) (ex_wide _ _ _ rfl dc_cv_5_73_u32 (b.getD (4 * t + 2) 0) (F.e rfl)) ?_; clear F a; intro a F
   refine still_val F (wn rfl) rfl rfl (wv ((wide (b.getD (4 * t + 2) 0)) <<< 8)) (ex_shlw _ _ _ _ rfl (wide (b.getD (4 * t + 2) 0)) .u64 8 (F.e rfl) rfl rfl) ?_; clear F a; intro a F
   refine still_val F (wn rfl) rfl rfl (wv ((((wide (b.getD (4 * t) 0)) <<< 24) ||| ((wide (b.getD (4 * t + 1) 0)) <<< 16)) ||| ((wide (b.getD (4 * t + 2) 0)) <<< 8))) (ex_bit .or (.inr (.inl rfl)) _ _ _ _ rfl (((wide (b.getD (4 * t) 0)) <<< 24) ||| ((wide (b.getD (4 * t + 1) 0)) <<< 16)) ((wide (b.getD (4 * t + 2) 0)) <<< 8) (F.e rfl) (F.e rfl)) ?_; clear F a; intro a F
   refine still_val F (wn rfl) rfl rfl (.slice (some adb) 64 c) (ex_move _ rfl _ (F.e rfl)) ?_; clear F a; intro a F
   refine still_val F (wn rfl) rfl rfl (.int .i64 t) (ex_move _ rfl _ (F.e rfl)) ?_; clear F a; intro a F
   refine still_val F (wn rfl) rfl rfl (.int .i64 ((4 * t : Nat) : Int)) (ex_bin .mul _ _ _ _ rfl .i64 _ _ rfl (F.e rfl) _ (b_mul ((w_i64 (by omega) (by omega)).trans (by omega)))) ?_; clear F a; intro a F
   refine still_val F (wn rfl) rfl rfl (.int .i64 ((4 * t + 3 : Nat) : Int)) (ex_bin .add _ _ _ _ rfl .i64 _ _ (F.e rfl) rfl _ (b_add ((w_i64 (by omega) (by omega)).trans (by omega)))) ?_; clear F a; intro a F
   refine still_val F (wn rfl) rfl rfl (.pointer (some (adb.add (4 * t + 3)))) (ex_ix _ _ _ rfl 1 dc_sl_23_1 adb _ _ (F.e rfl) .i64 _ (F.e rfl) (4 * t + 3) rfl (by omega) _ (congrArg _ (Nat.mul_one _))) ?_; clear F a; intro a F
   refine still_val F (wn rfl) rfl rfl (bv (b.getD (4 * t + 3) 0)) (ex_load _ _ rfl _ (F.e rfl) _ (lv1 dc_one_5 (At.cell hB (4 * t + 3) _ (bcs_get (by omega))))) ?_; clear F a; intro a F
   refine still_val F (wn rfl) rfl rfl (wv (wide (b.getD (4 * t + 3) 0))) (ex_wide _ _ _ rfl dc_cv_5_73_u32 (b.getD (4 * t + 3) 0) (F.e rfl)) ?_; clear F a; intro a F
   refine still_val F (wn rfl) rfl rfl (wv (((((wide (b.getD (4 * t) 0)) <<< 24) ||| ((wide (b.getD (4 * t + 1) 0)) <<< 16)) ||| ((wide (b.getD (4 * t + 2) 0)) <<< 8)) ||| (wide (b.getD (4 * t + 3) 0)))) (ex_bit .or (.inr (.inl rfl)) _ _ _ _ rfl ((((wide (b.getD (4 * t) 0)) <<< 24) ||| ((wide (b.getD (4 * t + 1) 0)) <<< 16)) ||| ((wide (b.getD (4 * t + 2) 0)) <<< 8)) (wide (b.getD (4 * t + 3) 0)) (F.e rfl) (F.e rfl)) ?_; clear F a; intro a F
   refine still_val F (wn rfl) rfl rfl (.pointer (some ⟨g4, t, none⟩)) (ex_ixa _ _ _ rfl 64 dc_ar_84_64 ⟨g4, 0, none⟩ (F.e rfl) .i64 _ (F.e rfl) t rfl (by omega) ⟨g4, t, none⟩ ((addr_add _ _ _).trans (by rw [Nat.zero_add]))) ?_; clear F a; intro a F
   refine still_end ?_
   refine list_do (wn rfl) (fun K hK => ?_)
   refine ow_store F M rfl 73 _ _ rfl 0 g4 _ _ rfl (t) (F.e rfl) _ (F.e rfl) [wv (((((wide (b.getD (4 * t) 0)) <<< 24) ||| ((wide (b.getD (4 * t + 1) 0)) <<< 16)) ||| ((wide (b.getD (4 * t + 2) 0)) <<< 8)) ||| (wide (b.getD (4 * t + 3) 0)))] rfl dc_info_73_map_size_some_1 (by rw [List.size_toArray, wcs_len]; simp; omega) (by simp [wv, Value.oneCell']) (wcs (ws.set t (((((wide (b.getD (4 * t) 0)) <<< 24) ||| ((wide (b.getD (4 * t + 1) 0)) <<< 16)) ||| ((wide (b.getD (4 * t + 2) 0)) <<< 8)) ||| (wide (b.getD (4 * t + 3) 0))))).toArray (congrArg List.toArray (wcs_set _ _ _ (by omega))) ?_
   clear F a; have Mo := M; clear M; intro a u F M hgr
   refine hK _ _ ?_
   clear hK K
   replace G_ := gw_new G_ hgr lw_g4
   replace hB := at_grown hB hgr (by have := lw_g4; omega)
   clear Mo hgr; try clear v
   replace M : Mm (cutW w g) u [⟨g4, (wcs (ws.set t (((((wide (b.getD (4 * t) 0)) <<< 24) ||| ((wide (b.getD (4 * t + 1) 0)) <<< 16)) ||| ((wide (b.getD (4 * t + 2) 0)) <<< 8)) ||| (wide (b.getD (4 * t + 3) 0))))).toArray, 84⟩, ⟨g, (hcs h sl m).toArray, 82⟩] := M
   refine wpList_nil ?_
   replace F : Fr 195 a [(0, .pointer (some ⟨g, 0, none⟩)), (1, .slice (some adb) 64 c), (4, .pointer (some ⟨g4, 0, none⟩)), (5, .int .i64 t), (16, .int .i64 t), (17, .bool true), (20, .bool true)] := F.keep ⟨rfl, rfl, rfl, rfl, rfl, rfl, rfl, trivial⟩
   refine then_n ?_
   refine wp_exit ?_
   refine then_x ?_
   refine in_hit ?_
   refine then_n ?_
   refine wp_region_lit ?_
   refine list_val F (wn rfl) rfl rfl (.int .i64 (t + 1)) (ex_bin .add _ _ _ _ rfl .i64 _ _ (F.e rfl) rfl _ (b_add (w_i64 (by omega) (by omega)))) ?_; clear F a; intro a F
   refine list_val F (wn rfl) rfl rfl (.int .i64 (t + 1)) (ex_move _ rfl _ (F.e rfl)) ?_; clear F a; intro a F
   refine wpList_nil ?_
   replace F : Fr 195 a [(0, .pointer (some ⟨g, 0, none⟩)), (1, .slice (some adb) 64 c), (4, .pointer (some ⟨g4, 0, none⟩)), (5, .int .i64 t), (16, .int .i64 (t + 1)), (17, .bool true), (20, .bool true)] := F.keep ⟨rfl, rfl, rfl, rfl, rfl, rfl, rfl, trivial⟩
   refine then_n ?_
   have hx : ((((wide (b.getD (4 * t) 0)) <<< 24) ||| ((wide (b.getD (4 * t + 1) 0)) <<< 16)) ||| ((wide (b.getD (4 * t + 2) 0)) <<< 8)) ||| (wide (b.getD (4 * t + 3) 0)) = nextW b (sched b t) := by
     rw [next_lo h16]
     rfl
   exact ⟨64 - (t + 1), by omega, (t + 1), (ws.set t (((((wide (b.getD (4 * t) 0)) <<< 24) ||| ((wide (b.getD (4 * t + 1) 0)) <<< 16)) ||| ((wide (b.getD (4 * t + 2) 0)) <<< 8)) ||| (wide (b.getD (4 * t + 3) 0)))), F.keep ⟨rfl, rfl, rfl, rfl, trivial⟩, (by refine M.pick' [0, 1] _ ?_ (by decide); exact ⟨rfl, rfl, trivial⟩), G_, hB, (by omega), (sched_set hws ht _ hx), (by rw [List.length_set]; exact hwl), (by omega)⟩
  refine wp_seq ?_
  refine wp_region_lit ?_
  refine list_val F (wn rfl) rfl rfl (.bool true) (ex_bin .lss _ _ _ _ rfl .i64 _ _ (F.e rfl) rfl _ (b_lss (decide_eq_true (by omega)))) ?_; clear F a; intro a F
  refine wpList_nil ?_
  replace F : Fr 195 a [(0, .pointer (some ⟨g, 0, none⟩)), (1, .slice (some adb) 64 c), (4, .pointer (some ⟨g4, 0, none⟩)), (16, .int .i64 t), (17, .bool true)] := F.keep ⟨rfl, rfl, rfl, rfl, rfl, trivial⟩
  refine then_n ?_
  refine wp_seq ?_
  refine wp_cond_true (F.e rfl) ?_
  refine wp_skip ?_
  refine then_n ?_
  refine wp_seq ?_
  refine wp_block ?_
  refine wp_seq ?_
  refine wp_region_lit ?_
  refine list_val F (wn rfl) rfl rfl (.int .i64 t) (ex_move _ rfl _ (F.e rfl)) ?_; clear F a; intro a F
  refine list_val F (wn rfl) rfl rfl (.int .i64 t) (ex_assign _ rfl _ (F.e rfl)) ?_; clear F a; intro a F
  refine wpList_nil ?_
  replace F : Fr 195 a [(0, .pointer (some ⟨g, 0, none⟩)), (1, .slice (some adb) 64 c), (4, .pointer (some ⟨g4, 0, none⟩)), (5, .int .i64 t), (16, .int .i64 t), (17, .bool true)] := F.keep ⟨rfl, rfl, rfl, rfl, rfl, rfl, trivial⟩
  refine then_n ?_
  refine wp_seq ?_
  refine wp_seq ?_
  refine wp_region_lit ?_
  refine list_val F (wn rfl) rfl rfl (.int .i64 t) (ex_move _ rfl _ (F.e rfl)) ?_; clear F a; intro a F
  refine list_val F (wn rfl) rfl rfl (.bool false) (ex_bin .lss _ _ _ _ rfl .i64 _ _ (F.e rfl) rfl _ (b_lss (decide_eq_false (by omega)))) ?_; clear F a; intro a F
  refine wpList_nil ?_
  replace F : Fr 195 a [(0, .pointer (some ⟨g, 0, none⟩)), (1, .slice (some adb) 64 c), (4, .pointer (some ⟨g4, 0, none⟩)), (5, .int .i64 t), (16, .int .i64 t), (17, .bool true), (20, .bool false)] := F.keep ⟨rfl, rfl, rfl, rfl, rfl, rfl, rfl, trivial⟩
  refine then_n ?_
  refine wp_cond_false (F.e rfl) ?_
  refine wp_skip ?_
  refine then_n ?_
  refine wp_seq ?_
  refine region_tail 9 dc_follows_mixedOrders (by kernel_rfl) M ?_; clear M; intro v M hb
  replace G_ := gw_below G_ hb
  replace hB := hB.below hb
  clear hb; try clear u
  refine still_val F (wn rfl) rfl rfl (.int .i64 t) (ex_move _ rfl _ (F.e rfl)) ?_; clear F a; intro a F
  refine still_val F (wn rfl) rfl rfl (.int .i64 ((t - 15 : Nat) : Int)) (ex_bin .sub _ _ _ _ rfl .i64 _ _ (F.e rfl) rfl _ (b_sub ((w_i64 (by omega) (by omega)).trans (by omega)))) ?_; clear F a; intro a F
  refine still_val F (wn rfl) rfl rfl (.pointer (some ⟨g4, t - 15, none⟩)) (ex_ixa _ _ _ rfl 64 dc_ar_84_64 ⟨g4, 0, none⟩ (F.e rfl) .i64 _ (F.e rfl) (t - 15) rfl (by omega) ⟨g4, t - 15, none⟩ ((addr_add _ _ _).trans (by rw [Nat.zero_add]))) ?_; clear F a; intro a F
  refine still_val F (wn rfl) rfl rfl (wv (ws.getD (t - 15) 0)) (ex_load _ _ rfl _ (F.e rfl) _ (lv1 dc_one_73 (M.cell (i := 0) rfl (j := t - 15) (wcs_arr (by omega))))) ?_; clear F a; intro a F
  refine still_val F (wn rfl) rfl rfl (.int .i64 t) (ex_move _ rfl _ (F.e rfl)) ?_; clear F a; intro a F
  refine still_val F (wn rfl) rfl rfl (.int .i64 ((t - 2 : Nat) : Int)) (ex_bin .sub _ _ _ _ rfl .i64 _ _ (F.e rfl) rfl _ (b_sub ((w_i64 (by omega) (by omega)).trans (by omega)))) ?_; clear F a; intro a F
  refine still_val F (wn rfl) rfl rfl (.pointer (some ⟨g4, t - 2, none⟩)) (ex_ixa _ _ _ rfl 64 dc_ar_84_64 ⟨g4, 0, none⟩ (F.e rfl) .i64 _ (F.e rfl) (t - 2) rfl (by omega) ⟨g4, t - 2, none⟩ ((addr_add _ _ _).trans (by rw [Nat.zero_add]))) ?_; clear F a; intro a F
  refine still_val F (wn rfl) rfl rfl (wv (ws.getD (t - 2) 0)) (ex_load _ _ rfl _ (F.e rfl) _ (lv1 dc_one_73 (M.cell (i := 0) rfl (j := t - 2) (wcs_arr (by omega))))) ?_; clear F a; intro a F
  refine still_val F (wn rfl) rfl rfl (wv (ws.getD (t - 15) 0)) (ex_assign _ rfl _ (F.e rfl)) ?_; clear F a; intro a F
  refine still_end ?_
  refine list_val F (wn rfl) rfl rfl (wv (ws.getD (t - 2) 0)) (ex_assign _ rfl _ (F.e rfl)) ?_; clear F a; intro a F
  refine wpList_nil ?_
  replace F : Fr 195 a [(0, .pointer (some ⟨g, 0, none⟩)), (1, .slice (some adb) 64 c), (4, .pointer (some ⟨g4, 0, none⟩)), (5, .int .i64 t), (6, wv (ws.getD (t - 15) 0)), (7, wv (ws.getD (t - 2) 0)), (16, .int .i64 t), (17, .bool true), (20, .bool false)] := F.keep ⟨rfl, rfl, rfl, rfl, rfl, rfl, rfl, rfl, rfl, trivial⟩
  refine then_n ?_
  refine wp_only (fun ar wr => Fr 195 ar [(0, .pointer (some ⟨g, 0, none⟩)), (1, .slice (some adb) 64 c), (4, .pointer (some ⟨g4, 0, none⟩)), (5, .int .i64 t), (6, wv (ws.getD (t - 15) 0)), (7, wv (ws.getD (t - 2) 0)), (16, .int .i64 t), (17, .bool true), (20, .bool false)] ∧ Mm (cutW w g) wr [⟨g4, (wcs (ws.set t ((((ws.getD (t - 16) 0) + (((rr (ws.getD (t - 15) 0) 7) ^^^ (rr (ws.getD (t - 15) 0) 18)) ^^^ ((ws.getD (t - 15) 0) >>> 3))) + (ws.getD (t - 7) 0)) + (((rr (ws.getD (t - 2) 0) 17) ^^^ (rr (ws.getD (t - 2) 0) 19)) ^^^ ((ws.getD (t - 2) 0) >>> 10))))).toArray, 84⟩, ⟨g, (hcs h sl m).toArray, 82⟩] ∧ w.grownBy wr (some g) ∧ At wr adb (bcs b)) ?_ ?_
  ·
   refine region_anyL dc_follows_mixedOrders M [] (fun w' M => (by refine M.pick' [] _ ?_ (by decide); exact trivial)) (fun w' => Low w' g4 ws t) (fun w' M => (by first | exact low_of (M.at (i := 0) rfl) (by omega) | exact low_set (M.at (i := 0) rfl) (by omega))) ?_; clear M; intro wD M hb
   replace G_ := gw_below G_ hb
   replace hB := hB.below hb
   clear hb; try clear v
   have hS : Mm (cutW w g) wD [] ∧ Low wD g4 ws t := ⟨(by refine M.pick' [] _ ?_ (by decide); exact trivial), (by first | exact low_of (M.at (i := 0) rfl) (by omega) | exact low_set (M.at (i := 0) rfl) (by omega))⟩
   refine any_val F 0 rfl (by kernel_rfl) (wn rfl) rfl rfl (.int .i64 t) (fun w' hS' => ex_move _ rfl _ (F.e rfl)) hS ?_; clear F a; intro a F
   refine any_val F 1 rfl (by kernel_rfl) (wn rfl) rfl rfl (.int .i64 t) (fun w' hS' => ex_move _ rfl _ (F.e rfl)) hS ?_; clear F a; intro a F
   refine any_val F 2 rfl (by kernel_rfl) (wn rfl) rfl rfl (.int .i64 ((t - 16 : Nat) : Int)) (fun w' hS' => ex_bin .sub _ _ _ _ rfl .i64 _ _ (F.e rfl) rfl _ (b_sub ((w_i64 (by omega) (by omega)).trans (by omega)))) hS ?_; clear F a; intro a F
   refine any_val F 3 rfl (by kernel_rfl) (wn rfl) rfl rfl (.pointer (some ⟨g4, t - 16, none⟩)) (fun w' hS' => ex_ixa _ _ _ rfl 64 dc_ar_84_64 ⟨g4, 0, none⟩ (F.e rfl) .i64 _ (F.e rfl) (t - 16) rfl (by omega) ⟨g4, t - 16, none⟩ ((addr_add _ _ _).trans (by rw [Nat.zero_add]))) hS ?_; clear F a; intro a F
   refine any_val F 4 rfl (by kernel_rfl) (wn rfl) rfl rfl (wv (ws.getD (t - 16) 0)) (fun w' hS' => ex_load _ _ rfl _ (F.e rfl) _ (lv1 dc_one_73 (hS'.2 (t - 16) (by omega)))) hS ?_; clear F a; intro a F
   refine any_val F 5 rfl (by kernel_rfl) (wn rfl) rfl rfl (wv (ws.getD (t - 15) 0)) (fun w' hS' => ex_move _ rfl _ (F.e rfl)) hS ?_; clear F a; intro a F
   refine any_val F 7 rfl (by kernel_rfl) (wn rfl) rfl rfl (wv (ws.getD (t - 15) 0)) (fun w' hS' => ex_move _ rfl _ (F.e rfl)) hS ?_; clear F a; intro a F
   refine any_val F 10 rfl (by kernel_rfl) (wn rfl) rfl rfl (wv (ws.getD (t - 15) 0)) (fun w' hS' => ex_move _ rfl _ (F.e rfl)) hS ?_; clear F a; intro a F
   refine any_val F 11 rfl (by kernel_rfl) (wn rfl) rfl rfl (wv ((ws.getD (t - 15) 0) >>> 3)) (fun w' hS' => ex_shrw _ _ _ _ rfl (ws.getD (t - 15) 0) .u64 3 (F.e rfl) rfl rfl) hS ?_; clear F a; intro a F
   refine any_val F 14 rfl (by kernel_rfl) (wn rfl) rfl rfl (.int .i64 t) (fun w' hS' => ex_move _ rfl _ (F.e rfl)) hS ?_; clear F a; intro a F
   refine any_val F 15 rfl (by kernel_rfl) (wn rfl) rfl rfl (.int .i64 ((t - 7 : Nat) : Int)) (fun w' hS' => ex_bin .sub _ _ _ _ rfl .i64 _ _ (F.e rfl) rfl _ (b_sub ((w_i64 (by omega) (by omega)).trans (by omega)))) hS ?_; clear F a; intro a F
   refine any_val F 16 rfl (by kernel_rfl) (wn rfl) rfl rfl (.pointer (some ⟨g4, t - 7, none⟩)) (fun w' hS' => ex_ixa _ _ _ rfl 64 dc_ar_84_64 ⟨g4, 0, none⟩ (F.e rfl) .i64 _ (F.e rfl) (t - 7) rfl (by omega) ⟨g4, t - 7, none⟩ ((addr_add _ _ _).trans (by rw [Nat.zero_add]))) hS ?_; clear F a; intro a F
   refine any_val F 17 rfl (by kernel_rfl) (wn rfl) rfl rfl (wv (ws.getD (t - 7) 0)) (fun w' hS' => ex_load _ _ rfl _ (F.e rfl) _ (lv1 dc_one_73 (hS'.2 (t - 7) (by omega)))) hS ?_; clear F a; intro a F
   refine any_val F 19 rfl (by kernel_rfl) (wn rfl) rfl rfl (wv (ws.getD (t - 2) 0)) (fun w' hS' => ex_move _ rfl _ (F.e rfl)) hS ?_; clear F a; intro a F
   refine any_val F 21 rfl (by kernel_rfl) (wn rfl) rfl rfl (wv (ws.getD (t - 2) 0)) (fun w' hS' => ex_move _ rfl _ (F.e rfl)) hS ?_; clear F a; intro a F
   refine any_val F 24 rfl (by kernel_rfl) (wn rfl) rfl rfl (wv (ws.getD (t - 2) 0)) (fun w' hS' => ex_move _ rfl _ (F.e rfl)) hS ?_; clear F a; intro a F
   refine any_val F 25 rfl (by kernel_rfl) (wn rfl) rfl rfl (wv ((ws.getD (t - 2) 0) >>> 10)) (fun w' hS' => ex_shrw _ _ _ _ rfl (ws.getD (t - 2) 0) .u64 10 (F.e rfl) rfl rfl) hS ?_; clear F a; intro a F
   refine any_ready [6] (by kernel_rfl) (by simp) ?_
   refine ready_do rfl (wn rfl) (fun K hK => ?_) AllReadyH.nil
   refine ow_call rfl rfl F 51 #[wv (ws.getD (t - 15) 0), .int .i64 7] (ex_call 51 _ _ rfl rfl dc_ent_51 _ (map2 (F.e rfl) rfl)) (right_any (ws.getD (t - 15) 0) 7 (by decide) (by decide) _) (fun e v hR => ?_)
   obtain ⟨he, hb⟩ := hR
   refine ⟨wv (rr (ws.getD (t - 15) 0) 7), he, ?_⟩; clear he F a; intro a F
   replace hS : Mm (cutW w g) v [] ∧ Low v g4 ws t := ⟨(by refine (M.below hb).pick' [] _ ?_ (by decide); exact trivial), (by first | exact low_of ((M.below hb).at (i := 0) rfl) (by omega) | exact low_set ((M.below hb).at (i := 0) rfl) (by omega))⟩
   refine hK _ _ hS ?_
   clear hK K
   replace G_ := gw_below G_ hb
   replace hB := hB.below hb
   replace M := M.below hb; clear hb; try clear wD
   refine any_ready [8] (by kernel_rfl) (by simp) ?_
   refine ready_do rfl (wn rfl) (fun K hK => ?_) AllReadyH.nil
   refine ow_call rfl rfl F 51 #[wv (ws.getD (t - 15) 0), .int .i64 18] (ex_call 51 _ _ rfl rfl dc_ent_51 _ (map2 (F.e rfl) rfl)) (right_any (ws.getD (t - 15) 0) 18 (by decide) (by decide) _) (fun e u hR => ?_)
   obtain ⟨he, hb⟩ := hR
   refine ⟨wv (rr (ws.getD (t - 15) 0) 18), he, ?_⟩; clear he F a; intro a F
   replace hS : Mm (cutW w g) u [] ∧ Low u g4 ws t := ⟨(by refine (M.below hb).pick' [] _ ?_ (by decide); exact trivial), (by first | exact low_of ((M.below hb).at (i := 0) rfl) (by omega) | exact low_set ((M.below hb).at (i := 0) rfl) (by omega))⟩
   refine hK _ _ hS ?_
   clear hK K
   replace G_ := gw_below G_ hb
   replace hB := hB.below hb
   replace M := M.below hb; clear hb; try clear v
   refine any_val F 9 rfl (by kernel_rfl) (wn rfl) rfl rfl (wv ((rr (ws.getD (t - 15) 0) 7) ^^^ (rr (ws.getD (t - 15) 0) 18))) (fun w' hS' => ex_bit .xor (.inr (.inr rfl)) _ _ _ _ rfl (rr (ws.getD (t - 15) 0) 7) (rr (ws.getD (t - 15) 0) 18) (F.e rfl) (F.e rfl)) hS ?_; clear F a; intro a F
   refine any_val F 12 rfl (by kernel_rfl) (wn rfl) rfl rfl (wv (((rr (ws.getD (t - 15) 0) 7) ^^^ (rr (ws.getD (t - 15) 0) 18)) ^^^ ((ws.getD (t - 15) 0) >>> 3))) (fun w' hS' => ex_bit .xor (.inr (.inr rfl)) _ _ _ _ rfl ((rr (ws.getD (t - 15) 0) 7) ^^^ (rr (ws.getD (t - 15) 0) 18)) ((ws.getD (t - 15) 0) >>> 3) (F.e rfl) (F.e rfl)) hS ?_; clear F a; intro a F
   refine any_val F 13 rfl (by kernel_rfl) (wn rfl) rfl rfl (wv ((ws.getD (t - 16) 0) + (((rr (ws.getD (t - 15) 0) 7) ^^^ (rr (ws.getD (t - 15) 0) 18)) ^^^ ((ws.getD (t - 15) 0) >>> 3)))) (fun w' hS' => ex_addw _ _ _ _ rfl (ws.getD (t - 16) 0) (((rr (ws.getD (t - 15) 0) 7) ^^^ (rr (ws.getD (t - 15) 0) 18)) ^^^ ((ws.getD (t - 15) 0) >>> 3)) (F.e rfl) (F.e rfl)) hS ?_; clear F a; intro a F
   refine any_val F 18 rfl (by kernel_rfl) (wn rfl) rfl rfl (wv (((ws.getD (t - 16) 0) + (((rr (ws.getD (t - 15) 0) 7) ^^^ (rr (ws.getD (t - 15) 0) 18)) ^^^ ((ws.getD (t - 15) 0) >>> 3))) + (ws.getD (t - 7) 0))) (fun w' hS' => ex_addw _ _ _ _ rfl ((ws.getD (t - 16) 0) + (((rr (ws.getD (t - 15) 0) 7) ^^^ (rr (ws.getD (t - 15) 0) 18)) ^^^ ((ws.getD (t - 15) 0) >>> 3))) (ws.getD (t - 7) 0) (F.e rfl) (F.e rfl)) hS ?_; clear F a; intro a F
   refine any_ready [20] (by kernel_rfl) (by simp) ?_
   refine ready_do rfl (wn rfl) (fun K hK => ?_) AllReadyH.nil
   refine ow_call rfl rfl F 51 #[wv (ws.getD (t - 2) 0), .int .i64 17] (ex_call 51 _ _ rfl rfl dc_ent_51 _ (map2 (F.e rfl) rfl)) (right_any (ws.getD (t - 2) 0) 17 (by decide) (by decide) _) (fun e v hR => ?_)
   obtain ⟨he, hb⟩ := hR
   refine ⟨wv (rr (ws.getD (t - 2) 0) 17), he, ?_⟩; clear he F a; intro a F
   replace hS : Mm (cutW w g) v [] ∧ Low v g4 ws t := ⟨(by refine (M.below hb).pick' [] _ ?_ (by decide); exact trivial), (by first | exact low_of ((M.below hb).at (i := 0) rfl) (by omega) | exact low_set ((M.below hb).at (i := 0) rfl) (by omega))⟩
   refine hK _ _ hS ?_
   clear hK K
   replace G_ := gw_below G_ hb
   replace hB := hB.below hb
   replace M := M.below hb; clear hb; try clear u
   refine any_ready [22] (by kernel_rfl) (by simp) ?_
   refine ready_do rfl (wn rfl) (fun K hK => ?_) AllReadyH.nil
   refine ow_call rfl rfl F 51 #[wv (ws.getD (t - 2) 0), .int .i64 19] (ex_call 51 _ _ rfl rfl dc_ent_51 _ (map2 (F.e rfl) rfl)) (right_any (ws.getD (t - 2) 0) 19 (by decide) (by decide) _) (fun e u hR => ?_)
   obtain ⟨he, hb⟩ := hR
   refine ⟨wv (rr (ws.getD (t - 2) 0) 19), he, ?_⟩; clear he F a; intro a F
   replace hS : Mm (cutW w g) u [] ∧ Low u g4 ws t := ⟨(by refine (M.below hb).pick' [] _ ?_ (by decide); exact trivial), (by first | exact low_of ((M.below hb).at (i := 0) rfl) (by omega) | exact low_set ((M.below hb).at (i := 0) rfl) (by omega))⟩
   refine hK _ _ hS ?_
   clear hK K
   replace G_ := gw_below G_ hb
   replace hB := hB.below hb
   replace M := M.below hb; clear hb; try clear v
   refine any_val F 23 rfl (by kernel_rfl) (wn rfl) rfl rfl (wv ((rr (ws.getD (t - 2) 0) 17) ^^^ (rr (ws.getD (t - 2) 0) 19))) (fun w' hS' => ex_bit .xor (.inr (.inr rfl)) _ _ _ _ rfl (rr (ws.getD (t - 2) 0) 17) (rr (ws.getD (t - 2) 0) 19) (F.e rfl) (F.e rfl)) hS ?_; clear F a; intro a F
   refine any_val F 26 rfl (by kernel_rfl) (wn rfl) rfl rfl (wv (((rr (ws.getD (t - 2) 0) 17) ^^^ (rr (ws.getD (t - 2) 0) 19)) ^^^ ((ws.getD (t - 2) 0) >>> 10))) (fun w' hS' => ex_bit .xor (.inr (.inr rfl)) _ _ _ _ rfl ((rr (ws.getD (t - 2) 0) 17) ^^^ (rr (ws.getD (t - 2) 0) 19)) ((ws.getD (t - 2) 0) >>> 10) (F.e rfl) (F.e rfl)) hS ?_; clear F a; intro a F
   refine any_val F 27 rfl (by kernel_rfl) (wn rfl) rfl rfl (wv ((((ws.getD (t - 16) 0) + (((rr (ws.getD (t - 15) 0) 7) ^^^ (rr (ws.getD (t - 15) 0) 18)) ^^^ ((ws.getD (t - 15) 0) >>> 3))) + (ws.getD (t - 7) 0)) + (((rr (ws.getD (t - 2) 0) 17) ^^^ (rr (ws.getD (t - 2) 0) 19)) ^^^ ((ws.getD (t - 2) 0) >>> 10)))) (fun w' hS' => ex_addw _ _ _ _ rfl (((ws.getD (t - 16) 0) + (((rr (ws.getD (t - 15) 0) 7) ^^^ (rr (ws.getD (t - 15) 0) 18)) ^^^ ((ws.getD (t - 15) 0) >>> 3))) + (ws.getD (t - 7) 0)) (((rr (ws.getD (t - 2) 0) 17) ^^^ (rr (ws.getD (t - 2) 0) 19)) ^^^ ((ws.getD (t - 2) 0) >>> 10)) (F.e rfl) (F.e rfl)) hS ?_; clear F a; intro a F
   refine any_val F 28 rfl (by kernel_rfl) (wn rfl) rfl rfl (.pointer (some ⟨g4, t, none⟩)) (fun w' hS' => ex_ixa _ _ _ rfl 64 dc_ar_84_64 ⟨g4, 0, none⟩ (F.e rfl) .i64 _ (F.e rfl) t rfl (by omega) ⟨g4, t, none⟩ ((addr_add _ _ _).trans (by rw [Nat.zero_add]))) hS ?_; clear F a; intro a F
   refine any_ready [29] (by kernel_rfl) (by simp) ?_
   refine ready_do rfl (wn rfl) (fun K hK => ?_) AllReadyH.nil
   refine ow_store F M rfl 73 _ _ rfl 0 g4 _ _ rfl (t) (F.e rfl) _ (F.e rfl) [wv ((((ws.getD (t - 16) 0) + (((rr (ws.getD (t - 15) 0) 7) ^^^ (rr (ws.getD (t - 15) 0) 18)) ^^^ ((ws.getD (t - 15) 0) >>> 3))) + (ws.getD (t - 7) 0)) + (((rr (ws.getD (t - 2) 0) 17) ^^^ (rr (ws.getD (t - 2) 0) 19)) ^^^ ((ws.getD (t - 2) 0) >>> 10)))] rfl dc_info_73_map_size_some_1 (by rw [List.size_toArray, wcs_len]; simp; omega) (by simp [wv, Value.oneCell']) (wcs (ws.set t ((((ws.getD (t - 16) 0) + (((rr (ws.getD (t - 15) 0) 7) ^^^ (rr (ws.getD (t - 15) 0) 18)) ^^^ ((ws.getD (t - 15) 0) >>> 3))) + (ws.getD (t - 7) 0)) + (((rr (ws.getD (t - 2) 0) 17) ^^^ (rr (ws.getD (t - 2) 0) 19)) ^^^ ((ws.getD (t - 2) 0) >>> 10))))).toArray (congrArg List.toArray (wcs_set _ _ _ (by omega))) ?_
   clear F a; have Mo := M; clear M; intro a v F M hgr
   replace hS : Mm (cutW w g) v [] ∧ Low v g4 ws t := ⟨(by refine M.pick' [] _ ?_ (by decide); exact trivial), (by first | exact low_of (M.at (i := 0) rfl) (by omega) | exact low_set (M.at (i := 0) rfl) (by omega))⟩
   refine hK _ _ hS ?_
   clear hK K
   replace G_ := gw_new G_ hgr lw_g4
   replace hB := at_grown hB hgr (by have := lw_g4; omega)
   clear Mo hgr; try clear u
   replace M : Mm (cutW w g) v [⟨g4, (wcs (ws.set t ((((ws.getD (t - 16) 0) + (((rr (ws.getD (t - 15) 0) 7) ^^^ (rr (ws.getD (t - 15) 0) 18)) ^^^ ((ws.getD (t - 15) 0) >>> 3))) + (ws.getD (t - 7) 0)) + (((rr (ws.getD (t - 2) 0) 17) ^^^ (rr (ws.getD (t - 2) 0) 19)) ^^^ ((ws.getD (t - 2) 0) >>> 10))))).toArray, 84⟩, ⟨g, (hcs h sl m).toArray, 82⟩] := M
   refine any_done (by kernel_rfl) ?_
   exact ⟨F.keep ⟨rfl, rfl, rfl, rfl, rfl, rfl, rfl, rfl, rfl, trivial⟩, (by refine M.pick' [0, 1] _ ?_ (by decide); exact ⟨rfl, rfl, trivial⟩), G_, hB⟩
  clear F M a G_ hB
  intro a u hR; obtain ⟨F, M, G_, hB⟩ := hR; try clear v
  refine in_n ?_
  refine then_n ?_
  refine wp_region_lit ?_
  refine list_val F (wn rfl) rfl rfl (.int .i64 (t + 1)) (ex_bin .add _ _ _ _ rfl .i64 _ _ (F.e rfl) rfl _ (b_add (w_i64 (by omega) (by omega)))) ?_; clear F a; intro a F
  refine list_val F (wn rfl) rfl rfl (.int .i64 (t + 1)) (ex_move _ rfl _ (F.e rfl)) ?_; clear F a; intro a F
  refine wpList_nil ?_
  replace F : Fr 195 a [(0, .pointer (some ⟨g, 0, none⟩)), (1, .slice (some adb) 64 c), (4, .pointer (some ⟨g4, 0, none⟩)), (5, .int .i64 t), (6, wv (ws.getD (t - 15) 0)), (7, wv (ws.getD (t - 2) 0)), (16, .int .i64 (t + 1)), (17, .bool true), (20, .bool false)] := F.keep ⟨rfl, rfl, rfl, rfl, rfl, rfl, rfl, rfl, rfl, trivial⟩
  refine then_n ?_
  have hx : (((ws.getD (t - 16) 0) + (((rr (ws.getD (t - 15) 0) 7) ^^^ (rr (ws.getD (t - 15) 0) 18)) ^^^ ((ws.getD (t - 15) 0) >>> 3))) + (ws.getD (t - 7) 0)) + (((rr (ws.getD (t - 2) 0) 17) ^^^ (rr (ws.getD (t - 2) 0) 19)) ^^^ ((ws.getD (t - 2) 0) >>> 10)) = nextW b (sched b t) := by
    rw [next_hi h16, hws, sched_getD (i := t - 16) (by omega), sched_getD (i := t - 15) (by omega), sched_getD (i := t - 7) (by omega), sched_getD (i := t - 2) (by omega)]
    rfl
  exact ⟨64 - (t + 1), by omega, (t + 1), (ws.set t ((((ws.getD (t - 16) 0) + (((rr (ws.getD (t - 15) 0) 7) ^^^ (rr (ws.getD (t - 15) 0) 18)) ^^^ ((ws.getD (t - 15) 0) >>> 3))) + (ws.getD (t - 7) 0)) + (((rr (ws.getD (t - 2) 0) 17) ^^^ (rr (ws.getD (t - 2) 0) 19)) ^^^ ((ws.getD (t - 2) 0) >>> 10)))), F.keep ⟨rfl, rfl, rfl, rfl, trivial⟩, (by refine M.pick' [0, 1] _ ?_ (by decide); exact ⟨rfl, rfl, trivial⟩), G_, hB, (by omega), (sched_set hws ht _ hx), (by rw [List.length_set]; exact hwl), (by omega)⟩
 obtain rfl : t = 64 := by omega
 rw [Nat.sub_self, List.replicate_zero, List.append_nil] at hws
 refine wp_seq ?_
 refine wp_region_lit ?_
 refine list_val F (wn rfl) rfl rfl (.bool false) (ex_bin .lss _ _ _ _ rfl .i64 _ _ (F.e rfl) rfl _ (b_lss (decide_eq_false (by omega)))) ?_; clear F a; intro a F
 refine wpList_nil ?_
 replace F : Fr 195 a [(0, .pointer (some ⟨g, 0, none⟩)), (1, .slice (some adb) 64 c), (4, .pointer (some ⟨g4, 0, none⟩)), (16, .int .i64 ((64 : Nat) : Int)), (17, .bool false)] := F.keep ⟨rfl, rfl, rfl, rfl, rfl, trivial⟩
 refine then_n ?_
 refine wp_seq ?_
 refine wp_cond_false (F.e rfl) ?_
 refine wp_exit ?_
 refine then_x ?_
 refine then_x ?_
 refine in_hit ?_
 refine then_n ?_
 refine wp_seq ?_
 refine wp_region_lit ?_
 refine list_val F (wn rfl) rfl rfl (.pointer (some ⟨g, 0, none⟩)) (ex_move _ rfl _ (F.e rfl)) ?_; clear F a; intro a F
 refine list_val F (wn rfl) rfl rfl (.pointer (some ⟨g, 0, none⟩)) (ex_nilck _ rfl _ (F.e rfl)) ?_; clear F a; intro a F
 refine list_val F (wn rfl) rfl rfl (.pointer (some ⟨g, 0, none⟩)) (ex_fa _ _ _ rfl _ (F.e rfl) 0 dc_fa_82_0_0 ⟨g, 0, none⟩ rfl) ?_; clear F a; intro a F
 refine list_val F (wn rfl) rfl rfl (.agg ((wcs h).toArray)) (ex_load _ _ rfl _ (F.e rfl) _ (lvr (cs := wcs h) (by rw [wcs_len, show _ = 8 from hh]; exact dc_row_74_8) (hcs_words (M.at (i := 1) rfl)))) ?_; clear F a; intro a F
 refine list_do (wn rfl) (fun K hK => ?_)
 refine ow_alloc F M rfl rfl 74 rfl (.agg (wcs zW8).toArray) z74 ((wcs zW8).toArray) rfl ?_
 clear F M a; intro a g8 v F M hb hg
 refine hK _ _ ?_
 clear hK K
 have lw_g8 : w.heap.size ≤ g8 := Nat.le_trans G_.size hg
 have K_G_ := G_
 have K_hB := hB
 replace G_ := gw_below G_ hb
 replace hB := hB.below hb
 have hz_g8 := hb; have lo_g8 := hg
 clear hb hg; try clear u
 refine list_do (wn rfl) (fun K hK => ?_)
 refine ow_put F M rfl 74 _ _ rfl 0 _ ((wcs zW8).toArray) _ rfl (F.e rfl) ((wcs h).toArray) (F.e rfl) (sz74 hh) (sz_eq rfl hh) (all_oneCell_toArray (wcs_one _)) ?_
 clear F a; have Mo := M; clear M; intro a u F M hgr
 refine hK _ _ ?_
 clear hK K
 have hzz := S_grown hz_g8 hgr lo_g8
 replace G_ := gw_below K_G_ hzz
 replace hB := K_hB.below hzz
 clear hzz hz_g8 lo_g8 K_G_ K_hB
 clear Mo hgr; try clear v
 replace M : Mm (cutW w g) u [⟨g8, (wcs h).toArray, 74⟩, ⟨g4, (wcs ws).toArray, 84⟩, ⟨g, (hcs h sl m).toArray, 82⟩] := M
 refine wpList_nil ?_
 replace F : Fr 195 a [(0, .pointer (some ⟨g, 0, none⟩)), (1, .slice (some adb) 64 c), (4, .pointer (some ⟨g4, 0, none⟩)), (8, .pointer (some ⟨g8, 0, none⟩)), (16, .int .i64 ((64 : Nat) : Int)), (17, .bool false)] := F.keep ⟨rfl, rfl, rfl, rfl, rfl, rfl, trivial⟩
 refine then_n ?_
 refine wp_seq ?_
 refine wp_seq ?_
 refine wp_region_lit ?_
 refine list_val F (wn rfl) rfl rfl (.int .i64 0) (ex_move _ rfl _ rfl) ?_; clear F a; intro a F
 refine wpList_nil ?_
 replace F : Fr 195 a [(0, .pointer (some ⟨g, 0, none⟩)), (1, .slice (some adb) 64 c), (4, .pointer (some ⟨g4, 0, none⟩)), (8, .pointer (some ⟨g8, 0, none⟩)), (16, .int .i64 ((64 : Nat) : Int)), (17, .bool false), (98, .int .i64 0)] := F.keep ⟨rfl, rfl, rfl, rfl, rfl, rfl, rfl, trivial⟩
 refine then_n ?_
 refine wp_block ?_
 refine wp_loopN (fun mq ar wr => ∃ (t : Nat), ∃ (v8 : List Wd), Fr 195 ar [(0, .pointer (some ⟨g, 0, none⟩)), (1, .slice (some adb) 64 c), (4, .pointer (some ⟨g4, 0, none⟩)), (8, .pointer (some ⟨g8, 0, none⟩)), (16, .int .i64 ((64 : Nat) : Int)), (17, .bool false), (98, .int .i64 t)] ∧ Mm (cutW w g) wr [⟨g8, (wcs v8).toArray, 74⟩, ⟨g4, (wcs ws).toArray, 84⟩, ⟨g, (hcs h sl m).toArray, 82⟩] ∧ w.grownBy wr (some g) ∧ At wr adb (bcs b) ∧ t ≤ 64 ∧ v8 = rounds ws h t ∧ v8.length = 8 ∧ mq + t = 64) 64 ?_ ?_
 ·
  exact ⟨0, h, F.keep ⟨rfl, rfl, rfl, rfl, rfl, rfl, rfl, trivial⟩, (by refine M.pick' [0, 1, 2] _ ?_ (by decide); exact ⟨rfl, rfl, rfl, trivial⟩), G_, hB, (Nat.zero_le _), rfl, hh, (by omega)⟩
 clear F M a G_ hB
 rintro mq a v ⟨t, v8, F, M, G_, hB, ht1, hv, hvl, hq⟩; try clear u
 by_cases ht : t < 64
 ·
  refine wp_seq ?_
  refine wp_region_lit ?_
  refine list_val F (wn rfl) rfl rfl (.bool true) (ex_bin .lss _ _ _ _ rfl .i64 _ _ (F.e rfl) rfl _ (b_lss (decide_eq_true (by omega)))) ?_; clear F a; intro a F
  refine wpList_nil ?_
  replace F : Fr 195 a [(0, .pointer (some ⟨g, 0, none⟩)), (1, .slice (some adb) 64 c), (4, .pointer (some ⟨g4, 0, none⟩)), (8, .pointer (some ⟨g8, 0, none⟩)), (16, .int .i64 ((64 : Nat) : Int)), (17, .bool false), (98, .int .i64 t), (99, .bool true)] := F.keep ⟨rfl, rfl, rfl, rfl, rfl, rfl, rfl, rfl, trivial⟩
  refine then_n ?_
  refine wp_seq ?_
  refine wp_cond_true (F.e rfl) ?_
  refine wp_skip ?_
  refine then_n ?_
  refine wp_seq ?_
  refine wp_block ?_
  refine wp_seq ?_
  refine wp_region_lit ?_
  refine list_val F (wn rfl) rfl rfl (.int .i64 t) (ex_move _ rfl _ (F.e rfl)) ?_; clear F a; intro a F
  refine list_val F (wn rfl) rfl rfl (.int .i64 t) (ex_assign _ rfl _ (F.e rfl)) ?_; clear F a; intro a F
  refine wpList_nil ?_
  replace F : Fr 195 a [(0, .pointer (some ⟨g, 0, none⟩)), (1, .slice (some adb) 64 c), (4, .pointer (some ⟨g4, 0, none⟩)), (8, .pointer (some ⟨g8, 0, none⟩)), (9, .int .i64 t), (16, .int .i64 ((64 : Nat) : Int)), (17, .bool false), (98, .int .i64 t), (99, .bool true)] := F.keep ⟨rfl, rfl, rfl, rfl, rfl, rfl, rfl, rfl, rfl, trivial⟩
  refine then_n ?_
  refine wp_seq ?_
  refine region_tail 5 dc_follows_mixedOrders (by kernel_rfl) M ?_; clear M; intro u M hb
  replace G_ := gw_below G_ hb
  replace hB := hB.below hb
  clear hb; try clear v
  refine still_val F (wn rfl) rfl rfl (.pointer (some ⟨g8, 0, none⟩)) (ex_ixa _ _ _ rfl 8 dc_ar_74_8 ⟨g8, 0, none⟩ (F.e rfl) .i64 _ rfl 0 rfl (by omega) ⟨g8, 0, none⟩ ((addr_add _ _ _).trans (by rw [Nat.zero_add]))) ?_; clear F a; intro a F
  refine still_val F (wn rfl) rfl rfl (wv (v8.getD 0 0)) (ex_load _ _ rfl _ (F.e rfl) _ (lv1 dc_one_73 (M.cell (i := 0) rfl (j := 0) (wcs_arr (by omega))))) ?_; clear F a; intro a F
  refine still_val F (wn rfl) rfl rfl (.pointer (some ⟨g8, 4, none⟩)) (ex_ixa _ _ _ rfl 8 dc_ar_74_8 ⟨g8, 0, none⟩ (F.e rfl) .i64 _ rfl 4 rfl (by omega) ⟨g8, 4, none⟩ ((addr_add _ _ _).trans (by rw [Nat.zero_add]))) ?_; clear F a; intro a F
  refine still_val F (wn rfl) rfl rfl (wv (v8.getD 4 0)) (ex_load _ _ rfl _ (F.e rfl) _ (lv1 dc_one_73 (M.cell (i := 0) rfl (j := 4) (wcs_arr (by omega))))) ?_; clear F a; intro a F
  refine still_val F (wn rfl) rfl rfl (wv (v8.getD 0 0)) (ex_assign _ rfl _ (F.e rfl)) ?_; clear F a; intro a F
  refine still_end ?_
  refine list_val F (wn rfl) rfl rfl (wv (v8.getD 4 0)) (ex_assign _ rfl _ (F.e rfl)) ?_; clear F a; intro a F
  refine wpList_nil ?_
  replace F : Fr 195 a [(0, .pointer (some ⟨g, 0, none⟩)), (1, .slice (some adb) 64 c), (4, .pointer (some ⟨g4, 0, none⟩)), (8, .pointer (some ⟨g8, 0, none⟩)), (9, .int .i64 t), (10, wv (v8.getD 0 0)), (11, wv (v8.getD 4 0)), (16, .int .i64 ((64 : Nat) : Int)), (17, .bool false), (98, .int .i64 t), (99, .bool true)] := F.keep ⟨rfl, rfl, rfl, rfl, rfl, rfl, rfl, rfl, rfl, rfl, rfl, trivial⟩
  refine then_n ?_
  refine wp_seq ?_
  refine wp_only (fun ar wr => Fr 195 ar [(0, .pointer (some ⟨g, 0, none⟩)), (1, .slice (some adb) 64 c), (4, .pointer (some ⟨g4, 0, none⟩)), (8, .pointer (some ⟨g8, 0, none⟩)), (9, .int .i64 t), (10, wv (v8.getD 0 0)), (11, wv (v8.getD 4 0)), (12, wv (((((v8.getD 7 0) + (((rr (v8.getD 4 0) 6) ^^^ (rr (v8.getD 4 0) 11)) ^^^ (rr (v8.getD 4 0) 25))) + (((v8.getD 4 0) &&& (v8.getD 5 0)) ^^^ ((~~~(v8.getD 4 0)) &&& (v8.getD 6 0)))) + (kTab.getD t 0)) + (ws.getD t 0))), (16, .int .i64 ((64 : Nat) : Int)), (17, .bool false), (98, .int .i64 t), (99, .bool true)] ∧ Mm (cutW w g) wr [⟨g8, (wcs v8).toArray, 74⟩, ⟨g4, (wcs ws).toArray, 84⟩, ⟨g, (hcs h sl m).toArray, 82⟩] ∧ w.grownBy wr (some g) ∧ At wr adb (bcs b)) ?_ ?_
  ·
   refine region_anyM dc_follows_mixedOrders M [⟨g4, (wcs ws).toArray, 84⟩, ⟨g8, (wcs v8).toArray, 74⟩] (fun w' M => (by refine M.pick' [1, 0] _ ?_ (by decide); exact ⟨rfl, rfl, trivial⟩)) ?_; clear M; intro wD M hb
   replace G_ := gw_below G_ hb
   replace hB := hB.below hb
   clear hb; try clear u
   have hS : Mm (cutW w g) wD [⟨g4, (wcs ws).toArray, 84⟩, ⟨g8, (wcs v8).toArray, 74⟩] := (by refine M.pick' [1, 0] _ ?_ (by decide); exact ⟨rfl, rfl, trivial⟩)
   refine any_val F 0 rfl (by kernel_rfl) (wn rfl) rfl rfl (.pointer (some ⟨g8, 7, none⟩)) (fun w' hS' => ex_ixa _ _ _ rfl 8 dc_ar_74_8 ⟨g8, 0, none⟩ (F.e rfl) .i64 _ rfl 7 rfl (by omega) ⟨g8, 7, none⟩ ((addr_add _ _ _).trans (by rw [Nat.zero_add]))) hS ?_; clear F a; intro a F
   refine any_val F 1 rfl (by kernel_rfl) (wn rfl) rfl rfl (wv (v8.getD 7 0)) (fun w' hS' => ex_load _ _ rfl _ (F.e rfl) _ (lv1 dc_one_73 (hS'.cell (i := 1) rfl (j := 7) (wcs_arr (by omega))))) hS ?_; clear F a; intro a F
   refine any_val F 2 rfl (by kernel_rfl) (wn rfl) rfl rfl (wv (v8.getD 4 0)) (fun w' hS' => ex_move _ rfl _ (F.e rfl)) hS ?_; clear F a; intro a F
   refine any_val F 4 rfl (by kernel_rfl) (wn rfl) rfl rfl (wv (v8.getD 4 0)) (fun w' hS' => ex_move _ rfl _ (F.e rfl)) hS ?_; clear F a; intro a F
   refine any_val F 7 rfl (by kernel_rfl) (wn rfl) rfl rfl (wv (v8.getD 4 0)) (fun w' hS' => ex_move _ rfl _ (F.e rfl)) hS ?_; clear F a; intro a F
   refine any_val F 11 rfl (by kernel_rfl) (wn rfl) rfl rfl (wv (v8.getD 4 0)) (fun w' hS' => ex_move _ rfl _ (F.e rfl)) hS ?_; clear F a; intro a F
   refine any_val F 12 rfl (by kernel_rfl) (wn rfl) rfl rfl (.pointer (some ⟨g8, 5, none⟩)) (fun w' hS' => ex_ixa _ _ _ rfl 8 dc_ar_74_8 ⟨g8, 0, none⟩ (F.e rfl) .i64 _ rfl 5 rfl (by omega) ⟨g8, 5, none⟩ ((addr_add _ _ _).trans (by rw [Nat.zero_add]))) hS ?_; clear F a; intro a F
   refine any_val F 13 rfl (by kernel_rfl) (wn rfl) rfl rfl (wv (v8.getD 5 0)) (fun w' hS' => ex_load _ _ rfl _ (F.e rfl) _ (lv1 dc_one_73 (hS'.cell (i := 1) rfl (j := 5) (wcs_arr (by omega))))) hS ?_; clear F a; intro a F
   refine any_val F 14 rfl (by kernel_rfl) (wn rfl) rfl rfl (wv ((v8.getD 4 0) &&& (v8.getD 5 0))) (fun w' hS' => ex_bit .and (.inl rfl) _ _ _ _ rfl (v8.getD 4 0) (v8.getD 5 0) (F.e rfl) (F.e rfl)) hS ?_; clear F a; intro a F
   refine any_val F 15 rfl (by kernel_rfl) (wn rfl) rfl rfl (wv (v8.getD 4 0)) (fun w' hS' => ex_move _ rfl _ (F.e rfl)) hS ?_; clear F a; intro a F
   refine any_val F 16 rfl (by kernel_rfl) (wn rfl) rfl rfl (wv (~~~(v8.getD 4 0))) (fun w' hS' => ex_notw _ _ rfl (v8.getD 4 0) (F.e rfl)) hS ?_; clear F a; intro a F
   refine any_val F 17 rfl (by kernel_rfl) (wn rfl) rfl rfl (.pointer (some ⟨g8, 6, none⟩)) (fun w' hS' => ex_ixa _ _ _ rfl 8 dc_ar_74_8 ⟨g8, 0, none⟩ (F.e rfl) .i64 _ rfl 6 rfl (by omega) ⟨g8, 6, none⟩ ((addr_add _ _ _).trans (by rw [Nat.zero_add]))) hS ?_; clear F a; intro a F
   refine any_val F 18 rfl (by kernel_rfl) (wn rfl) rfl rfl (wv (v8.getD 6 0)) (fun w' hS' => ex_load _ _ rfl _ (F.e rfl) _ (lv1 dc_one_73 (hS'.cell (i := 1) rfl (j := 6) (wcs_arr (by omega))))) hS ?_; clear F a; intro a F
   refine any_val F 19 rfl (by kernel_rfl) (wn rfl) rfl rfl (wv ((~~~(v8.getD 4 0)) &&& (v8.getD 6 0))) (fun w' hS' => ex_bit .and (.inl rfl) _ _ _ _ rfl (~~~(v8.getD 4 0)) (v8.getD 6 0) (F.e rfl) (F.e rfl)) hS ?_; clear F a; intro a F
   refine any_val F 20 rfl (by kernel_rfl) (wn rfl) rfl rfl (wv (((v8.getD 4 0) &&& (v8.getD 5 0)) ^^^ ((~~~(v8.getD 4 0)) &&& (v8.getD 6 0)))) (fun w' hS' => ex_bit .xor (.inr (.inr rfl)) _ _ _ _ rfl ((v8.getD 4 0) &&& (v8.getD 5 0)) ((~~~(v8.getD 4 0)) &&& (v8.getD 6 0)) (F.e rfl) (F.e rfl)) hS ?_; clear F a; intro a F
   refine any_val F 22 rfl (by kernel_rfl) (wn rfl) rfl rfl (.int .i64 t) (fun w' hS' => ex_move _ rfl _ (F.e rfl)) hS ?_; clear F a; intro a F
   refine any_val F 23 rfl (by kernel_rfl) (wn rfl) rfl rfl (.pointer (some (Addr.add ⟨0, 0, none⟩ t))) (fun w' hS' => ex_ixa _ _ _ rfl 64 dc_ar_84_64 ⟨0, 0, none⟩ rfl .i64 _ (F.e rfl) t rfl (by omega) _ rfl) hS ?_; clear F a; intro a F
   refine any_val F 24 rfl (by kernel_rfl) (wn rfl) rfl rfl (wv (kTab.getD t 0)) (fun w' hS' => ex_load _ _ rfl _ (F.e rfl) _ (lv1 dc_one_73 (At.cell (hK.below hS'.bel) t _ (wcs_get (by rw [kTab_len]; omega))))) hS ?_; clear F a; intro a F
   refine any_val F 26 rfl (by kernel_rfl) (wn rfl) rfl rfl (.int .i64 t) (fun w' hS' => ex_move _ rfl _ (F.e rfl)) hS ?_; clear F a; intro a F
   refine any_val F 27 rfl (by kernel_rfl) (wn rfl) rfl rfl (.pointer (some ⟨g4, t, none⟩)) (fun w' hS' => ex_ixa _ _ _ rfl 64 dc_ar_84_64 ⟨g4, 0, none⟩ (F.e rfl) .i64 _ (F.e rfl) t rfl (by omega) ⟨g4, t, none⟩ ((addr_add _ _ _).trans (by rw [Nat.zero_add]))) hS ?_; clear F a; intro a F
   refine any_val F 28 rfl (by kernel_rfl) (wn rfl) rfl rfl (wv (ws.getD t 0)) (fun w' hS' => ex_load _ _ rfl _ (F.e rfl) _ (lv1 dc_one_73 (hS'.cell (i := 0) rfl (j := t) (wcs_arr (by omega))))) hS ?_; clear F a; intro a F
   refine any_ready [3] (by kernel_rfl) (by simp) ?_
   refine ready_do rfl (wn rfl) (fun K hK => ?_) AllReadyH.nil
   refine ow_call rfl rfl F 51 #[wv (v8.getD 4 0), .int .i64 6] (ex_call 51 _ _ rfl rfl dc_ent_51 _ (map2 (F.e rfl) rfl)) (right_any (v8.getD 4 0) 6 (by decide) (by decide) _) (fun e v hR => ?_)
   obtain ⟨he, hb⟩ := hR
   refine ⟨wv (rr (v8.getD 4 0) 6), he, ?_⟩; clear he F a; intro a F
   replace hS : Mm (cutW w g) v [⟨g4, (wcs ws).toArray, 84⟩, ⟨g8, (wcs v8).toArray, 74⟩] := (by refine (M.below hb).pick' [1, 0] _ ?_ (by decide); exact ⟨rfl, rfl, trivial⟩)
   refine hK _ _ hS ?_
   clear hK K
   replace G_ := gw_below G_ hb
   replace hB := hB.below hb
   replace M := M.below hb; clear hb; try clear wD
   refine any_ready [5] (by kernel_rfl) (by simp) ?_
   refine ready_do rfl (wn rfl) (fun K hK => ?_) AllReadyH.nil
   refine ow_call rfl rfl F 51 #[wv (v8.getD 4 0), .int .i64 11] (ex_call 51 _ _ rfl rfl dc_ent_51 _ (map2 (F.e rfl) rfl)) (right_any (v8.getD 4 0) 11 (by decide) (by decide) _) (fun e u hR => ?_)
   obtain ⟨he, hb⟩ := hR
   refine ⟨wv (rr (v8.getD 4 0) 11), he, ?_⟩; clear he F a; intro a F
   replace hS : Mm (cutW w g) u [⟨g4, (wcs ws).toArray, 84⟩, ⟨g8, (wcs v8).toArray, 74⟩] := (by refine (M.below hb).pick' [1, 0] _ ?_ (by decide); exact ⟨rfl, rfl, trivial⟩)
   refine hK _ _ hS ?_
   clear hK K
   replace G_ := gw_below G_ hb
   replace hB := hB.below hb
   replace M := M.below hb; clear hb; try clear v
   refine any_val F 6 rfl (by kernel_rfl) (wn rfl) rfl rfl (wv ((rr (v8.getD 4 0) 6) ^^^ (rr (v8.getD 4 0) 11))) (fun w' hS' => ex_bit .xor (.inr (.inr rfl)) _ _ _ _ rfl (rr (v8.getD 4 0) 6) (rr (v8.getD 4 0) 11) (F.e rfl) (F.e rfl)) hS ?_; clear F a; intro a F
   refine any_ready [8] (by kernel_rfl) (by simp) ?_
   refine ready_do rfl (wn rfl) (fun K hK => ?_) AllReadyH.nil
   refine ow_call rfl rfl F 51 #[wv (v8.getD 4 0), .int .i64 25] (ex_call 51 _ _ rfl rfl dc_ent_51 _ (map2 (F.e rfl) rfl)) (right_any (v8.getD 4 0) 25 (by decide) (by decide) _) (fun e v hR => ?_)
   obtain ⟨he, hb⟩ := hR
   refine ⟨wv (rr (v8.getD 4 0) 25), he, ?_⟩; clear he F a; intro a F
   replace hS : Mm (cutW w g) v [⟨g4, (wcs ws).toArray, 84⟩, ⟨g8, (wcs v8).toArray, 74⟩] := (by refine (M.below hb).pick' [1, 0] _ ?_ (by decide); exact ⟨rfl, rfl, trivial⟩)
   refine hK _ _ hS ?_
   clear hK K
   replace G_ := gw_below G_ hb
   replace hB := hB.below hb
   replace M := M.below hb; clear hb; try clear u
   refine any_val F 9 rfl (by kernel_rfl) (wn rfl) rfl rfl (wv (((rr (v8.getD 4 0) 6) ^^^ (rr (v8.getD 4 0) 11)) ^^^ (rr (v8.getD 4 0) 25))) (fun w' hS' => ex_bit .xor (.inr (.inr rfl)) _ _ _ _ rfl ((rr (v8.getD 4 0) 6) ^^^ (rr (v8.getD 4 0) 11)) (rr (v8.getD 4 0) 25) (F.e rfl) (F.e rfl)) hS ?_; clear F a; intro a F
   refine any_val F 10 rfl (by kernel_rfl) (wn rfl) rfl rfl (wv ((v8.getD 7 0) + (((rr (v8.getD 4 0) 6) ^^^ (rr (v8.getD 4 0) 11)) ^^^ (rr (v8.getD 4 0) 25)))) (fun w' hS' => ex_addw _ _ _ _ rfl (v8.getD 7 0) (((rr (v8.getD 4 0) 6) ^^^ (rr (v8.getD 4 0) 11)) ^^^ (rr (v8.getD 4 0) 25)) (F.e rfl) (F.e rfl)) hS ?_; clear F a; intro a F
   refine any_val F 21 rfl (by kernel_rfl) (wn rfl) rfl rfl (wv (((v8.getD 7 0) + (((rr (v8.getD 4 0) 6) ^^^ (rr (v8.getD 4 0) 11)) ^^^ (rr (v8.getD 4 0) 25))) + (((v8.getD 4 0) &&& (v8.getD 5 0)) ^^^ ((~~~(v8.getD 4 0)) &&& (v8.getD 6 0))))) (fun w' hS' => ex_addw _ _ _ _ rfl ((v8.getD 7 0) + (((rr (v8.getD 4 0) 6) ^^^ (rr (v8.getD 4 0) 11)) ^^^ (rr (v8.getD 4 0) 25))) (((v8.getD 4 0) &&& (v8.getD 5 0)) ^^^ ((~~~(v8.getD 4 0)) &&& (v8.getD 6 0))) (F.e rfl) (F.e rfl)) hS ?_; clear F a; intro a F
   refine any_val F 25 rfl (by kernel_rfl) (wn rfl) rfl rfl (wv ((((v8.getD 7 0) + (((rr (v8.getD 4 0) 6) ^^^ (rr (v8.getD 4 0) 11)) ^^^ (rr (v8.getD 4 0) 25))) + (((v8.getD 4 0) &&& (v8.getD 5 0)) ^^^ ((~~~(v8.getD 4 0)) &&& (v8.getD 6 0)))) + (kTab.getD t 0))) (fun w' hS' => ex_addw _ _ _ _ rfl (((v8.getD 7 0) + (((rr (v8.getD 4 0) 6) ^^^ (rr (v8.getD 4 0) 11)) ^^^ (rr (v8.getD 4 0) 25))) + (((v8.getD 4 0) &&& (v8.getD 5 0)) ^^^ ((~~~(v8.getD 4 0)) &&& (v8.getD 6 0)))) (kTab.getD t 0) (F.e rfl) (F.e rfl)) hS ?_; clear F a; intro a F
   refine any_val F 29 rfl (by kernel_rfl) (wn rfl) rfl rfl (wv (((((v8.getD 7 0) + (((rr (v8.getD 4 0) 6) ^^^ (rr (v8.getD 4 0) 11)) ^^^ (rr (v8.getD 4 0) 25))) + (((v8.getD 4 0) &&& (v8.getD 5 0)) ^^^ ((~~~(v8.getD 4 0)) &&& (v8.getD 6 0)))) + (kTab.getD t 0)) + (ws.getD t 0))) (fun w' hS' => ex_addw _ _ _ _ rfl ((((v8.getD 7 0) + (((rr (v8.getD 4 0) 6) ^^^ (rr (v8.getD 4 0) 11)) ^^^ (rr (v8.getD 4 0) 25))) + (((v8.getD 4 0) &&& (v8.getD 5 0)) ^^^ ((~~~(v8.getD 4 0)) &&& (v8.getD 6 0)))) + (kTab.getD t 0)) (ws.getD t 0) (F.e rfl) (F.e rfl)) hS ?_; clear F a; intro a F
   refine any_val F 30 rfl (by kernel_rfl) (wn rfl) rfl rfl (wv (((((v8.getD 7 0) + (((rr (v8.getD 4 0) 6) ^^^ (rr (v8.getD 4 0) 11)) ^^^ (rr (v8.getD 4 0) 25))) + (((v8.getD 4 0) &&& (v8.getD 5 0)) ^^^ ((~~~(v8.getD 4 0)) &&& (v8.getD 6 0)))) + (kTab.getD t 0)) + (ws.getD t 0))) (fun w' hS' => ex_assign _ rfl _ (F.e rfl)) hS ?_; clear F a; intro a F
   refine any_done (by kernel_rfl) ?_
   exact ⟨F.keep ⟨rfl, rfl, rfl, rfl, rfl, rfl, rfl, rfl, rfl, rfl, rfl, rfl, trivial⟩, (by refine M.pick' [0, 1, 2] _ ?_ (by decide); exact ⟨rfl, rfl, rfl, trivial⟩), G_, hB⟩
  clear F M a G_ hB
  intro a v hR; obtain ⟨F, M, G_, hB⟩ := hR; try clear u
  refine then_n ?_
  refine wp_seq ?_
  refine wp_only (fun ar wr => Fr 195 ar [(0, .pointer (some ⟨g, 0, none⟩)), (1, .slice (some adb) 64 c), (4, .pointer (some ⟨g4, 0, none⟩)), (8, .pointer (some ⟨g8, 0, none⟩)), (9, .int .i64 t), (10, wv (v8.getD 0 0)), (11, wv (v8.getD 4 0)), (12, wv (((((v8.getD 7 0) + (((rr (v8.getD 4 0) 6) ^^^ (rr (v8.getD 4 0) 11)) ^^^ (rr (v8.getD 4 0) 25))) + (((v8.getD 4 0) &&& (v8.getD 5 0)) ^^^ ((~~~(v8.getD 4 0)) &&& (v8.getD 6 0)))) + (kTab.getD t 0)) + (ws.getD t 0))), (13, wv ((((rr (v8.getD 0 0) 2) ^^^ (rr (v8.getD 0 0) 13)) ^^^ (rr (v8.getD 0 0) 22)) + ((((v8.getD 0 0) &&& (v8.getD 1 0)) ^^^ ((v8.getD 0 0) &&& (v8.getD 2 0))) ^^^ ((v8.getD 1 0) &&& (v8.getD 2 0))))), (16, .int .i64 ((64 : Nat) : Int)), (17, .bool false), (98, .int .i64 t), (99, .bool true)] ∧ Mm (cutW w g) wr [⟨g8, (wcs v8).toArray, 74⟩, ⟨g4, (wcs ws).toArray, 84⟩, ⟨g, (hcs h sl m).toArray, 82⟩] ∧ w.grownBy wr (some g) ∧ At wr adb (bcs b)) ?_ ?_
  ·
   refine region_anyM dc_follows_mixedOrders M [⟨g8, (wcs v8).toArray, 74⟩] (fun w' M => (by refine M.pick' [0] _ ?_ (by decide); exact ⟨rfl, trivial⟩)) ?_; clear M; intro wD M hb
   replace G_ := gw_below G_ hb
   replace hB := hB.below hb
   clear hb; try clear v
   have hS : Mm (cutW w g) wD [⟨g8, (wcs v8).toArray, 74⟩] := (by refine M.pick' [0] _ ?_ (by decide); exact ⟨rfl, trivial⟩)
   refine any_val F 0 rfl (by kernel_rfl) (wn rfl) rfl rfl (wv (v8.getD 0 0)) (fun w' hS' => ex_move _ rfl _ (F.e rfl)) hS ?_; clear F a; intro a F
   refine any_val F 2 rfl (by kernel_rfl) (wn rfl) rfl rfl (wv (v8.getD 0 0)) (fun w' hS' => ex_move _ rfl _ (F.e rfl)) hS ?_; clear F a; intro a F
   refine any_val F 5 rfl (by kernel_rfl) (wn rfl) rfl rfl (wv (v8.getD 0 0)) (fun w' hS' => ex_move _ rfl _ (F.e rfl)) hS ?_; clear F a; intro a F
   refine any_val F 8 rfl (by kernel_rfl) (wn rfl) rfl rfl (wv (v8.getD 0 0)) (fun w' hS' => ex_move _ rfl _ (F.e rfl)) hS ?_; clear F a; intro a F
   refine any_val F 9 rfl (by kernel_rfl) (wn rfl) rfl rfl (.pointer (some ⟨g8, 1, none⟩)) (fun w' hS' => ex_ixa _ _ _ rfl 8 dc_ar_74_8 ⟨g8, 0, none⟩ (F.e rfl) .i64 _ rfl 1 rfl (by omega) ⟨g8, 1, none⟩ ((addr_add _ _ _).trans (by rw [Nat.zero_add]))) hS ?_; clear F a; intro a F
   refine any_val F 10 rfl (by kernel_rfl) (wn rfl) rfl rfl (wv (v8.getD 1 0)) (fun w' hS' => ex_load _ _ rfl _ (F.e rfl) _ (lv1 dc_one_73 (hS'.cell (i := 0) rfl (j := 1) (wcs_arr (by omega))))) hS ?_; clear F a; intro a F
   refine any_val F 11 rfl (by kernel_rfl) (wn rfl) rfl rfl (wv ((v8.getD 0 0) &&& (v8.getD 1 0))) (fun w' hS' => ex_bit .and (.inl rfl) _ _ _ _ rfl (v8.getD 0 0) (v8.getD 1 0) (F.e rfl) (F.e rfl)) hS ?_; clear F a; intro a F
   refine any_val F 12 rfl (by kernel_rfl) (wn rfl) rfl rfl (wv (v8.getD 0 0)) (fun w' hS' => ex_move _ rfl _ (F.e rfl)) hS ?_; clear F a; intro a F
   refine any_val F 13 rfl (by kernel_rfl) (wn rfl) rfl rfl (.pointer (some ⟨g8, 2, none⟩)) (fun w' hS' => ex_ixa _ _ _ rfl 8 dc_ar_74_8 ⟨g8, 0, none⟩ (F.e rfl) .i64 _ rfl 2 rfl (by omega) ⟨g8, 2, none⟩ ((addr_add _ _ _).trans (by rw [Nat.zero_add]))) hS ?_; clear F a; intro a F
   refine any_val F 14 rfl (by kernel_rfl) (wn rfl) rfl rfl (wv (v8.getD 2 0)) (fun w' hS' => ex_load _ _ rfl _ (F.e rfl) _ (lv1 dc_one_73 (hS'.cell (i := 0) rfl (j := 2) (wcs_arr (by omega))))) hS ?_; clear F a; intro a F
   refine any_val F 15 rfl (by kernel_rfl) (wn rfl) rfl rfl (wv ((v8.getD 0 0) &&& (v8.getD 2 0))) (fun w' hS' => ex_bit .and (.inl rfl) _ _ _ _ rfl (v8.getD 0 0) (v8.getD 2 0) (F.e rfl) (F.e rfl)) hS ?_; clear F a; intro a F
   refine any_val F 16 rfl (by kernel_rfl) (wn rfl) rfl rfl (wv (((v8.getD 0 0) &&& (v8.getD 1 0)) ^^^ ((v8.getD 0 0) &&& (v8.getD 2 0)))) (fun w' hS' => ex_bit .xor (.inr (.inr rfl)) _ _ _ _ rfl ((v8.getD 0 0) &&& (v8.getD 1 0)) ((v8.getD 0 0) &&& (v8.getD 2 0)) (F.e rfl) (F.e rfl)) hS ?_; clear F a; intro a F
   refine any_val F 17 rfl (by kernel_rfl) (wn rfl) rfl rfl (.pointer (some ⟨g8, 1, none⟩)) (fun w' hS' => ex_ixa _ _ _ rfl 8 dc_ar_74_8 ⟨g8, 0, none⟩ (F.e rfl) .i64 _ rfl 1 rfl (by omega) ⟨g8, 1, none⟩ ((addr_add _ _ _).trans (by rw [Nat.zero_add]))) hS ?_; clear F a; intro a F
   refine any_val F 18 rfl (by kernel_rfl) (wn rfl) rfl rfl (wv (v8.getD 1 0)) (fun w' hS' => ex_load _ _ rfl _ (F.e rfl) _ (lv1 dc_one_73 (hS'.cell (i := 0) rfl (j := 1) (wcs_arr (by omega))))) hS ?_; clear F a; intro a F
   refine any_val F 19 rfl (by kernel_rfl) (wn rfl) rfl rfl (.pointer (some ⟨g8, 2, none⟩)) (fun w' hS' => ex_ixa _ _ _ rfl 8 dc_ar_74_8 ⟨g8, 0, none⟩ (F.e rfl) .i64 _ rfl 2 rfl (by omega) ⟨g8, 2, none⟩ ((addr_add _ _ _).trans (by rw [Nat.zero_add]))) hS ?_; clear F a; intro a F
   refine any_val F 20 rfl (by kernel_rfl) (wn rfl) rfl rfl (wv (v8.getD 2 0)) (fun w' hS' => ex_load _ _ rfl _ (F.e rfl) _ (lv1 dc_one_73 (hS'.cell (i := 0) rfl (j := 2) (wcs_arr (by omega))))) hS ?_; clear F a; intro a F
   refine any_val F 21 rfl (by kernel_rfl) (wn rfl) rfl rfl (wv ((v8.getD 1 0) &&& (v8.getD 2 0))) (fun w' hS' => ex_bit .and (.inl rfl) _ _ _ _ rfl (v8.getD 1 0) (v8.getD 2 0) (F.e rfl) (F.e rfl)) hS ?_; clear F a; intro a F
   refine any_val F 22 rfl (by kernel_rfl) (wn rfl) rfl rfl (wv ((((v8.getD 0 0) &&& (v8.getD 1 0)) ^^^ ((v8.getD 0 0) &&& (v8.getD 2 0))) ^^^ ((v8.getD 1 0) &&& (v8.getD 2 0)))) (fun w' hS' => ex_bit .xor (.inr (.inr rfl)) _ _ _ _ rfl (((v8.getD 0 0) &&& (v8.getD 1 0)) ^^^ ((v8.getD 0 0) &&& (v8.getD 2 0))) ((v8.getD 1 0) &&& (v8.getD 2 0)) (F.e rfl) (F.e rfl)) hS ?_; clear F a; intro a F
   refine any_ready [1] (by kernel_rfl) (by simp) ?_
   refine ready_do rfl (wn rfl) (fun K hK => ?_) AllReadyH.nil
   refine ow_call rfl rfl F 51 #[wv (v8.getD 0 0), .int .i64 2] (ex_call 51 _ _ rfl rfl dc_ent_51 _ (map2 (F.e rfl) rfl)) (right_any (v8.getD 0 0) 2 (by decide) (by decide) _) (fun e v hR => ?_)
   obtain ⟨he, hb⟩ := hR
   refine ⟨wv (rr (v8.getD 0 0) 2), he, ?_⟩; clear he F a; intro a F
   replace hS : Mm (cutW w g) v [⟨g8, (wcs v8).toArray, 74⟩] := (by refine (M.below hb).pick' [0] _ ?_ (by decide); exact ⟨rfl, trivial⟩)
   refine hK _ _ hS ?_
   clear hK K
   replace G_ := gw_below G_ hb
   replace hB := hB.below hb
   replace M := M.below hb; clear hb; try clear wD
   refine any_ready [3] (by kernel_rfl) (by simp) ?_
   refine ready_do rfl (wn rfl) (fun K hK => ?_) AllReadyH.nil
   refine ow_call rfl rfl F 51 #[wv (v8.getD 0 0), .int .i64 13] (ex_call 51 _ _ rfl rfl dc_ent_51 _ (map2 (F.e rfl) rfl)) (right_any (v8.getD 0 0) 13 (by decide) (by decide) _) (fun e u hR => ?_)
   obtain ⟨he, hb⟩ := hR
   refine ⟨wv (rr (v8.getD 0 0) 13), he, ?_⟩; clear he F a; intro a F
   replace hS : Mm (cutW w g) u [⟨g8, (wcs v8).toArray, 74⟩] := (by refine (M.below hb).pick' [0] _ ?_ (by decide); exact ⟨rfl, trivial⟩)
   refine hK _ _ hS ?_
   clear hK K
   replace G_ := gw_below G_ hb
   replace hB := hB.below hb
   replace M := M.below hb; clear hb; try clear v
   refine any_val F 4 rfl (by kernel_rfl) (wn rfl) rfl rfl (wv ((rr (v8.getD 0 0) 2) ^^^ (rr (v8.getD 0 0) 13))) (fun w' hS' => ex_bit .xor (.inr (.inr rfl)) _ _ _ _ rfl (rr (v8.getD 0 0) 2) (rr (v8.getD 0 0) 13) (F.e rfl) (F.e rfl)) hS ?_; clear F a; intro a F
   refine any_ready [6] (by kernel_rfl) (by simp) ?_
   refine ready_do rfl (wn rfl) (fun K hK => ?_) AllReadyH.nil
   refine ow_call rfl rfl F 51 #[wv (v8.getD 0 0), .int .i64 22] (ex_call 51 _ _ rfl rfl dc_ent_51 _ (map2 (F.e rfl) rfl)) (right_any (v8.getD 0 0) 22 (by decide) (by decide) _) (fun e v hR => ?_)
   obtain ⟨he, hb⟩ := hR
   refine ⟨wv (rr (v8.getD 0 0) 22), he, ?_⟩; clear he F a; intro a F
   replace hS : Mm (cutW w g) v [⟨g8, (wcs v8).toArray, 74⟩] := (by refine (M.below hb).pick' [0] _ ?_ (by decide); exact ⟨rfl, trivial⟩)
   refine hK _ _ hS ?_
   clear hK K
   replace G_ := gw_below G_ hb
   replace hB := hB.below hb
   replace M := M.below hb; clear hb; try clear u
   refine any_val F 7 rfl (by kernel_rfl) (wn rfl) rfl rfl (wv (((rr (v8.getD 0 0) 2) ^^^ (rr (v8.getD 0 0) 13)) ^^^ (rr (v8.getD 0 0) 22))) (fun w' hS' => ex_bit .xor (.inr (.inr rfl)) _ _ _ _ rfl ((rr (v8.getD 0 0) 2) ^^^ (rr (v8.getD 0 0) 13)) (rr (v8.getD 0 0) 22) (F.e rfl) (F.e rfl)) hS ?_; clear F a; intro a F
   refine any_val F 23 rfl (by kernel_rfl) (wn rfl) rfl rfl (wv ((((rr (v8.getD 0 0) 2) ^^^ (rr (v8.getD 0 0) 13)) ^^^ (rr (v8.getD 0 0) 22)) + ((((v8.getD 0 0) &&& (v8.getD 1 0)) ^^^ ((v8.getD 0 0) &&& (v8.getD 2 0))) ^^^ ((v8.getD 1 0) &&& (v8.getD 2 0))))) (fun w' hS' => ex_addw _ _ _ _ rfl (((rr (v8.getD 0 0) 2) ^^^ (rr (v8.getD 0 0) 13)) ^^^ (rr (v8.getD 0 0) 22)) ((((v8.getD 0 0) &&& (v8.getD 1 0)) ^^^ ((v8.getD 0 0) &&& (v8.getD 2 0))) ^^^ ((v8.getD 1 0) &&& (v8.getD 2 0))) (F.e rfl) (F.e rfl)) hS ?_; clear F a; intro a F
   refine any_val F 24 rfl (by kernel_rfl) (wn rfl) rfl rfl (wv ((((rr (v8.getD 0 0) 2) ^^^ (rr (v8.getD 0 0) 13)) ^^^ (rr (v8.getD 0 0) 22)) + ((((v8.getD 0 0) &&& (v8.getD 1 0)) ^^^ ((v8.getD 0 0) &&& (v8.getD 2 0))) ^^^ ((v8.getD 1 0) &&& (v8.getD 2 0))))) (fun w' hS' => ex_assign _ rfl _ (F.e rfl)) hS ?_; clear F a; intro a F
   refine any_done (by kernel_rfl) ?_
   exact ⟨F.keep ⟨rfl, rfl, rfl, rfl, rfl, rfl, rfl, rfl, rfl, rfl, rfl, rfl, rfl, trivial⟩, (by refine M.pick' [0, 1, 2] _ ?_ (by decide); exact ⟨rfl, rfl, rfl, trivial⟩), G_, hB⟩
  clear F M a G_ hB
  intro a u hR; obtain ⟨F, M, G_, hB⟩ := hR; try clear v
  refine then_n ?_
  refine wp_region_lit ?_
  refine list_val F (wn rfl) rfl rfl (wv (((((v8.getD 7 0) + (((rr (v8.getD 4 0) 6) ^^^ (rr (v8.getD 4 0) 11)) ^^^ (rr (v8.getD 4 0) 25))) + (((v8.getD 4 0) &&& (v8.getD 5 0)) ^^^ ((~~~(v8.getD 4 0)) &&& (v8.getD 6 0)))) + (kTab.getD t 0)) + (ws.getD t 0))) (ex_move _ rfl _ (F.e rfl)) ?_; clear F a; intro a F
  refine list_val F (wn rfl) rfl rfl (wv ((((rr (v8.getD 0 0) 2) ^^^ (rr (v8.getD 0 0) 13)) ^^^ (rr (v8.getD 0 0) 22)) + ((((v8.getD 0 0) &&& (v8.getD 1 0)) ^^^ ((v8.getD 0 0) &&& (v8.getD 2 0))) ^^^ ((v8.getD 1 0) &&& (v8.getD 2 0))))) (ex_move _ rfl _ (F.e rfl)) ?_; clear F a; intro a F
  refine list_val F (wn rfl) rfl rfl (wv ((((((v8.getD 7 0) + (((rr (v8.getD 4 0) 6) ^^^ (rr (v8.getD 4 0) 11)) ^^^ (rr (v8.getD 4 0) 25))) + (((v8.getD 4 0) &&& (v8.getD 5 0)) ^^^ ((~~~(v8.getD 4 0)) &&& (v8.getD 6 0)))) + (kTab.getD t 0)) + (ws.getD t 0)) + ((((rr (v8.getD 0 0) 2) ^^^ (rr (v8.getD 0 0) 13)) ^^^ (rr (v8.getD 0 0) 22)) + ((((v8.getD 0 0) &&& (v8.getD 1 0)) ^^^ ((v8.getD 0 0) &&& (v8.getD 2 0))) ^^^ ((v8.getD 1 0) &&& (v8.getD 2 0)))))) (ex_addw _ _ _ _ rfl (((((v8.getD 7 0) + (((rr (v8.getD 4 0) 6) ^^^ (rr (v8.getD 4 0) 11)) ^^^ (rr (v8.getD 4 0) 25))) + (((v8.getD 4 0) &&& (v8.getD 5 0)) ^^^ ((~~~(v8.getD 4 0)) &&& (v8.getD 6 0)))) + (kTab.getD t 0)) + (ws.getD t 0)) ((((rr (v8.getD 0 0) 2) ^^^ (rr (v8.getD 0 0) 13)) ^^^ (rr (v8.getD 0 0) 22)) + ((((v8.getD 0 0) &&& (v8.getD 1 0)) ^^^ ((v8.getD 0 0) &&& (v8.getD 2 0))) ^^^ ((v8.getD 1 0) &&& (v8.getD 2 0)))) (F.e rfl) (F.e rfl)) ?_; clear F a; intro a F
  refine list_val F (wn rfl) rfl rfl (wv (v8.getD 0 0)) (ex_move _ rfl _ (F.e rfl)) ?_; clear F a; intro a F
  refine list_val F (wn rfl) rfl rfl (.pointer (some ⟨g8, 1, none⟩)) (ex_ixa _ _ _ rfl 8 dc_ar_74_8 ⟨g8, 0, none⟩ (F.e rfl) .i64 _ rfl 1 rfl (by omega) ⟨g8, 1, none⟩ ((addr_add _ _ _).trans (by rw [Nat.zero_add]))) ?_; clear F a; intro a F
  refine list_val F (wn rfl) rfl rfl (wv (v8.getD 1 0)) (ex_load _ _ rfl _ (F.e rfl) _ (lv1 dc_one_73 (M.cell (i := 0) rfl (j := 1) (wcs_arr (by omega))))) ?_; clear F a; intro a F
  refine list_val F (wn rfl) rfl rfl (.pointer (some ⟨g8, 2, none⟩)) (ex_ixa _ _ _ rfl 8 dc_ar_74_8 ⟨g8, 0, none⟩ (F.e rfl) .i64 _ rfl 2 rfl (by omega) ⟨g8, 2, none⟩ ((addr_add _ _ _).trans (by rw [Nat.zero_add]))) ?_; clear F a; intro a F
  refine list_val F (wn rfl) rfl rfl (wv (v8.getD 2 0)) (ex_load _ _ rfl _ (F.e rfl) _ (lv1 dc_one_73 (M.cell (i := 0) rfl (j := 2) (wcs_arr (by omega))))) ?_; clear F a; intro a F
  refine list_val F (wn rfl) rfl rfl (.pointer (some ⟨g8, 3, none⟩)) (ex_ixa _ _ _ rfl 8 dc_ar_74_8 ⟨g8, 0, none⟩ (F.e rfl) .i64 _ rfl 3 rfl (by omega) ⟨g8, 3, none⟩ ((addr_add _ _ _).trans (by rw [Nat.zero_add]))) ?_; clear F a; intro a F
  refine list_val F (wn rfl) rfl rfl (wv (v8.getD 3 0)) (ex_load _ _ rfl _ (F.e rfl) _ (lv1 dc_one_73 (M.cell (i := 0) rfl (j := 3) (wcs_arr (by omega))))) ?_; clear F a; intro a F
  refine list_val F (wn rfl) rfl rfl (wv (((((v8.getD 7 0) + (((rr (v8.getD 4 0) 6) ^^^ (rr (v8.getD 4 0) 11)) ^^^ (rr (v8.getD 4 0) 25))) + (((v8.getD 4 0) &&& (v8.getD 5 0)) ^^^ ((~~~(v8.getD 4 0)) &&& (v8.getD 6 0)))) + (kTab.getD t 0)) + (ws.getD t 0))) (ex_move _ rfl _ (F.e rfl)) ?_; clear F a; intro a F
  refine list_val F (wn rfl) rfl rfl (wv ((v8.getD 3 0) + (((((v8.getD 7 0) + (((rr (v8.getD 4 0) 6) ^^^ (rr (v8.getD 4 0) 11)) ^^^ (rr (v8.getD 4 0) 25))) + (((v8.getD 4 0) &&& (v8.getD 5 0)) ^^^ ((~~~(v8.getD 4 0)) &&& (v8.getD 6 0)))) + (kTab.getD t 0)) + (ws.getD t 0)))) (ex_addw _ _ _ _ rfl (v8.getD 3 0) (((((v8.getD 7 0) + (((rr (v8.getD 4 0) 6) ^^^ (rr (v8.getD 4 0) 11)) ^^^ (rr (v8.getD 4 0) 25))) + (((v8.getD 4 0) &&& (v8.getD 5 0)) ^^^ ((~~~(v8.getD 4 0)) &&& (v8.getD 6 0)))) + (kTab.getD t 0)) + (ws.getD t 0)) (F.e rfl) (F.e rfl)) ?_; clear F a; intro a F
  refine list_val F (wn rfl) rfl rfl (wv (v8.getD 4 0)) (ex_move _ rfl _ (F.e rfl)) ?_; clear F a; intro a F
  refine list_val F (wn rfl) rfl rfl (.pointer (some ⟨g8, 5, none⟩)) (ex_ixa _ _ _ rfl 8 dc_ar_74_8 ⟨g8, 0, none⟩ (F.e rfl) .i64 _ rfl 5 rfl (by omega) ⟨g8, 5, none⟩ ((addr_add _ _ _).trans (by rw [Nat.zero_add]))) ?_; clear F a; intro a F
  refine list_val F (wn rfl) rfl rfl (wv (v8.getD 5 0)) (ex_load _ _ rfl _ (F.e rfl) _ (lv1 dc_one_73 (M.cell (i := 0) rfl (j := 5) (wcs_arr (by omega))))) ?_; clear F a; intro a F
  refine list_val F (wn rfl) rfl rfl (.pointer (some ⟨g8, 6, none⟩)) (ex_ixa _ _ _ rfl 8 dc_ar_74_8 ⟨g8, 0, none⟩ (F.e rfl) .i64 _ rfl 6 rfl (by omega) ⟨g8, 6, none⟩ ((addr_add _ _ _).trans (by rw [Nat.zero_add]))) ?_; clear F a; intro a F
  refine list_val F (wn rfl) rfl rfl (wv (v8.getD 6 0)) (ex_load _ _ rfl _ (F.e rfl) _ (lv1 dc_one_73 (M.cell (i := 0) rfl (j := 6) (wcs_arr (by omega))))) ?_; clear F a; intro a F
  refine list_val F (wn rfl) rfl rfl (.agg ((wcs ([(((((v8.getD 7 0) + (((rr (v8.getD 4 0) 6) ^^^ (rr (v8.getD 4 0) 11)) ^^^ (rr (v8.getD 4 0) 25))) + (((v8.getD 4 0) &&& (v8.getD 5 0)) ^^^ ((~~~(v8.getD 4 0)) &&& (v8.getD 6 0)))) + (kTab.getD t 0)) + (ws.getD t 0)) + ((((rr (v8.getD 0 0) 2) ^^^ (rr (v8.getD 0 0) 13)) ^^^ (rr (v8.getD 0 0) 22)) + ((((v8.getD 0 0) &&& (v8.getD 1 0)) ^^^ ((v8.getD 0 0) &&& (v8.getD 2 0))) ^^^ ((v8.getD 1 0) &&& (v8.getD 2 0)))), v8.getD 0 0, v8.getD 1 0, v8.getD 2 0, (v8.getD 3 0) + (((((v8.getD 7 0) + (((rr (v8.getD 4 0) 6) ^^^ (rr (v8.getD 4 0) 11)) ^^^ (rr (v8.getD 4 0) 25))) + (((v8.getD 4 0) &&& (v8.getD 5 0)) ^^^ ((~~~(v8.getD 4 0)) &&& (v8.getD 6 0)))) + (kTab.getD t 0)) + (ws.getD t 0)), v8.getD 4 0, v8.getD 5 0, v8.getD 6 0])).toArray)) (ex_build 74 _ rfl #[(0, wv ((((((v8.getD 7 0) + (((rr (v8.getD 4 0) 6) ^^^ (rr (v8.getD 4 0) 11)) ^^^ (rr (v8.getD 4 0) 25))) + (((v8.getD 4 0) &&& (v8.getD 5 0)) ^^^ ((~~~(v8.getD 4 0)) &&& (v8.getD 6 0)))) + (kTab.getD t 0)) + (ws.getD t 0)) + ((((rr (v8.getD 0 0) 2) ^^^ (rr (v8.getD 0 0) 13)) ^^^ (rr (v8.getD 0 0) 22)) + ((((v8.getD 0 0) &&& (v8.getD 1 0)) ^^^ ((v8.getD 0 0) &&& (v8.getD 2 0))) ^^^ ((v8.getD 1 0) &&& (v8.getD 2 0)))))), (1, wv (v8.getD 0 0)), (2, wv (v8.getD 1 0)), (3, wv (v8.getD 2 0)), (4, wv ((v8.getD 3 0) + (((((v8.getD 7 0) + (((rr (v8.getD 4 0) 6) ^^^ (rr (v8.getD 4 0) 11)) ^^^ (rr (v8.getD 4 0) 25))) + (((v8.getD 4 0) &&& (v8.getD 5 0)) ^^^ ((~~~(v8.getD 4 0)) &&& (v8.getD 6 0)))) + (kTab.getD t 0)) + (ws.getD t 0)))), (5, wv (v8.getD 4 0)), (6, wv (v8.getD 5 0)), (7, wv (v8.getD 6 0))] (parts8 (F.e rfl) (F.e rfl) (F.e rfl) (F.e rfl) (F.e rfl) (F.e rfl) (F.e rfl) (F.e rfl)) (.agg ((wcs ([(((((v8.getD 7 0) + (((rr (v8.getD 4 0) 6) ^^^ (rr (v8.getD 4 0) 11)) ^^^ (rr (v8.getD 4 0) 25))) + (((v8.getD 4 0) &&& (v8.getD 5 0)) ^^^ ((~~~(v8.getD 4 0)) &&& (v8.getD 6 0)))) + (kTab.getD t 0)) + (ws.getD t 0)) + ((((rr (v8.getD 0 0) 2) ^^^ (rr (v8.getD 0 0) 13)) ^^^ (rr (v8.getD 0 0) 22)) + ((((v8.getD 0 0) &&& (v8.getD 1 0)) ^^^ ((v8.getD 0 0) &&& (v8.getD 2 0))) ^^^ ((v8.getD 1 0) &&& (v8.getD 2 0)))), v8.getD 0 0, v8.getD 1 0, v8.getD 2 0, (v8.getD 3 0) + (((((v8.getD 7 0) + (((rr (v8.getD 4 0) 6) ^^^ (rr (v8.getD 4 0) 11)) ^^^ (rr (v8.getD 4 0) 25))) + (((v8.getD 4 0) &&& (v8.getD 5 0)) ^^^ ((~~~(v8.getD 4 0)) &&& (v8.getD 6 0)))) + (kTab.getD t 0)) + (ws.getD t 0)), v8.getD 4 0, v8.getD 5 0, v8.getD 6 0])).toArray)) (build74 ((((((v8.getD 7 0) + (((rr (v8.getD 4 0) 6) ^^^ (rr (v8.getD 4 0) 11)) ^^^ (rr (v8.getD 4 0) 25))) + (((v8.getD 4 0) &&& (v8.getD 5 0)) ^^^ ((~~~(v8.getD 4 0)) &&& (v8.getD 6 0)))) + (kTab.getD t 0)) + (ws.getD t 0)) + ((((rr (v8.getD 0 0) 2) ^^^ (rr (v8.getD 0 0) 13)) ^^^ (rr (v8.getD 0 0) 22)) + ((((v8.getD 0 0) &&& (v8.getD 1 0)) ^^^ ((v8.getD 0 0) &&& (v8.getD 2 0))) ^^^ ((v8.getD 1 0) &&& (v8.getD 2 0))))) (v8.getD 0 0) (v8.getD 1 0) (v8.getD 2 0) ((v8.getD 3 0) + (((((v8.getD 7 0) + (((rr (v8.getD 4 0) 6) ^^^ (rr (v8.getD 4 0) 11)) ^^^ (rr (v8.getD 4 0) 25))) + (((v8.getD 4 0) &&& (v8.getD 5 0)) ^^^ ((~~~(v8.getD 4 0)) &&& (v8.getD 6 0)))) + (kTab.getD t 0)) + (ws.getD t 0))) (v8.getD 4 0) (v8.getD 5 0) (v8.getD 6 0) _)) ?_; clear F a; intro a F
  refine list_do (wn rfl) (fun K hK => ?_)
  refine ow_put F M rfl 74 _ _ rfl 0 _ ((wcs v8).toArray) _ rfl (F.e rfl) ((wcs ([(((((v8.getD 7 0) + (((rr (v8.getD 4 0) 6) ^^^ (rr (v8.getD 4 0) 11)) ^^^ (rr (v8.getD 4 0) 25))) + (((v8.getD 4 0) &&& (v8.getD 5 0)) ^^^ ((~~~(v8.getD 4 0)) &&& (v8.getD 6 0)))) + (kTab.getD t 0)) + (ws.getD t 0)) + ((((rr (v8.getD 0 0) 2) ^^^ (rr (v8.getD 0 0) 13)) ^^^ (rr (v8.getD 0 0) 22)) + ((((v8.getD 0 0) &&& (v8.getD 1 0)) ^^^ ((v8.getD 0 0) &&& (v8.getD 2 0))) ^^^ ((v8.getD 1 0) &&& (v8.getD 2 0)))), v8.getD 0 0, v8.getD 1 0, v8.getD 2 0, (v8.getD 3 0) + (((((v8.getD 7 0) + (((rr (v8.getD 4 0) 6) ^^^ (rr (v8.getD 4 0) 11)) ^^^ (rr (v8.getD 4 0) 25))) + (((v8.getD 4 0) &&& (v8.getD 5 0)) ^^^ ((~~~(v8.getD 4 0)) &&& (v8.getD 6 0)))) + (kTab.getD t 0)) + (ws.getD t 0)), v8.getD 4 0, v8.getD 5 0, v8.getD 6 0])).toArray) (F.e rfl) (sz74 rfl) (sz_eq hvl rfl) (all_oneCell_toArray (wcs_one _)) ?_
  clear F a; have Mo := M; clear M; intro a v F M hgr
  refine hK _ _ ?_
  clear hK K
  replace G_ := gw_new G_ hgr lw_g8
  replace hB := at_grown hB hgr (by have := lw_g8; omega)
  clear Mo hgr; try clear u
  replace M : Mm (cutW w g) v [⟨g8, (wcs ([(((((v8.getD 7 0) + (((rr (v8.getD 4 0) 6) ^^^ (rr (v8.getD 4 0) 11)) ^^^ (rr (v8.getD 4 0) 25))) + (((v8.getD 4 0) &&& (v8.getD 5 0)) ^^^ ((~~~(v8.getD 4 0)) &&& (v8.getD 6 0)))) + (kTab.getD t 0)) + (ws.getD t 0)) + ((((rr (v8.getD 0 0) 2) ^^^ (rr (v8.getD 0 0) 13)) ^^^ (rr (v8.getD 0 0) 22)) + ((((v8.getD 0 0) &&& (v8.getD 1 0)) ^^^ ((v8.getD 0 0) &&& (v8.getD 2 0))) ^^^ ((v8.getD 1 0) &&& (v8.getD 2 0)))), v8.getD 0 0, v8.getD 1 0, v8.getD 2 0, (v8.getD 3 0) + (((((v8.getD 7 0) + (((rr (v8.getD 4 0) 6) ^^^ (rr (v8.getD 4 0) 11)) ^^^ (rr (v8.getD 4 0) 25))) + (((v8.getD 4 0) &&& (v8.getD 5 0)) ^^^ ((~~~(v8.getD 4 0)) &&& (v8.getD 6 0)))) + (kTab.getD t 0)) + (ws.getD t 0)), v8.getD 4 0, v8.getD 5 0, v8.getD 6 0])).toArray, 74⟩, ⟨g4, (wcs ws).toArray, 84⟩, ⟨g, (hcs h sl m).toArray, 82⟩] := M
  refine wpList_nil ?_
  replace F : Fr 195 a [(0, .pointer (some ⟨g, 0, none⟩)), (1, .slice (some adb) 64 c), (4, .pointer (some ⟨g4, 0, none⟩)), (8, .pointer (some ⟨g8, 0, none⟩)), (9, .int .i64 t), (10, wv (v8.getD 0 0)), (11, wv (v8.getD 4 0)), (12, wv (((((v8.getD 7 0) + (((rr (v8.getD 4 0) 6) ^^^ (rr (v8.getD 4 0) 11)) ^^^ (rr (v8.getD 4 0) 25))) + (((v8.getD 4 0) &&& (v8.getD 5 0)) ^^^ ((~~~(v8.getD 4 0)) &&& (v8.getD 6 0)))) + (kTab.getD t 0)) + (ws.getD t 0))), (13, wv ((((rr (v8.getD 0 0) 2) ^^^ (rr (v8.getD 0 0) 13)) ^^^ (rr (v8.getD 0 0) 22)) + ((((v8.getD 0 0) &&& (v8.getD 1 0)) ^^^ ((v8.getD 0 0) &&& (v8.getD 2 0))) ^^^ ((v8.getD 1 0) &&& (v8.getD 2 0))))), (16, .int .i64 ((64 : Nat) : Int)), (17, .bool false), (98, .int .i64 t), (99, .bool true)] := F.keep ⟨rfl, rfl, rfl, rfl, rfl, rfl, rfl, rfl, rfl, rfl, rfl, rfl, rfl, trivial⟩
  refine in_n ?_
  refine then_n ?_
  refine wp_region_lit ?_
  refine list_val F (wn rfl) rfl rfl (.int .i64 (t + 1)) (ex_bin .add _ _ _ _ rfl .i64 _ _ (F.e rfl) rfl _ (b_add (w_i64 (by omega) (by omega)))) ?_; clear F a; intro a F
  refine list_val F (wn rfl) rfl rfl (.int .i64 (t + 1)) (ex_move _ rfl _ (F.e rfl)) ?_; clear F a; intro a F
  refine wpList_nil ?_
  replace F : Fr 195 a [(0, .pointer (some ⟨g, 0, none⟩)), (1, .slice (some adb) 64 c), (4, .pointer (some ⟨g4, 0, none⟩)), (8, .pointer (some ⟨g8, 0, none⟩)), (9, .int .i64 t), (10, wv (v8.getD 0 0)), (11, wv (v8.getD 4 0)), (12, wv (((((v8.getD 7 0) + (((rr (v8.getD 4 0) 6) ^^^ (rr (v8.getD 4 0) 11)) ^^^ (rr (v8.getD 4 0) 25))) + (((v8.getD 4 0) &&& (v8.getD 5 0)) ^^^ ((~~~(v8.getD 4 0)) &&& (v8.getD 6 0)))) + (kTab.getD t 0)) + (ws.getD t 0))), (13, wv ((((rr (v8.getD 0 0) 2) ^^^ (rr (v8.getD 0 0) 13)) ^^^ (rr (v8.getD 0 0) 22)) + ((((v8.getD 0 0) &&& (v8.getD 1 0)) ^^^ ((v8.getD 0 0) &&& (v8.getD 2 0))) ^^^ ((v8.getD 1 0) &&& (v8.getD 2 0))))), (16, .int .i64 ((64 : Nat) : Int)), (17, .bool false), (98, .int .i64 (t + 1)), (99, .bool true)] := F.keep ⟨rfl, rfl, rfl, rfl, rfl, rfl, rfl, rfl, rfl, rfl, rfl, rfl, rfl, trivial⟩
  refine then_n ?_
  exact ⟨64 - (t + 1), by omega, (t + 1), [(((((v8.getD 7 0) + (((rr (v8.getD 4 0) 6) ^^^ (rr (v8.getD 4 0) 11)) ^^^ (rr (v8.getD 4 0) 25))) + (((v8.getD 4 0) &&& (v8.getD 5 0)) ^^^ ((~~~(v8.getD 4 0)) &&& (v8.getD 6 0)))) + (kTab.getD t 0)) + (ws.getD t 0)) + ((((rr (v8.getD 0 0) 2) ^^^ (rr (v8.getD 0 0) 13)) ^^^ (rr (v8.getD 0 0) 22)) + ((((v8.getD 0 0) &&& (v8.getD 1 0)) ^^^ ((v8.getD 0 0) &&& (v8.getD 2 0))) ^^^ ((v8.getD 1 0) &&& (v8.getD 2 0)))), v8.getD 0 0, v8.getD 1 0, v8.getD 2 0, (v8.getD 3 0) + (((((v8.getD 7 0) + (((rr (v8.getD 4 0) 6) ^^^ (rr (v8.getD 4 0) 11)) ^^^ (rr (v8.getD 4 0) 25))) + (((v8.getD 4 0) &&& (v8.getD 5 0)) ^^^ ((~~~(v8.getD 4 0)) &&& (v8.getD 6 0)))) + (kTab.getD t 0)) + (ws.getD t 0)), v8.getD 4 0, v8.getD 5 0, v8.getD 6 0], F.keep ⟨rfl, rfl, rfl, rfl, rfl, rfl, rfl, trivial⟩, (by refine M.pick' [0, 1, 2] _ ?_ (by decide); exact ⟨rfl, rfl, rfl, trivial⟩), G_, hB, (by omega), (by rw [rounds, ← hv]; rfl), rfl, (by omega)⟩
 obtain rfl : t = 64 := by omega
 refine wp_seq ?_
 refine wp_region_lit ?_
 refine list_val F (wn rfl) rfl rfl (.bool false) (ex_bin .lss _ _ _ _ rfl .i64 _ _ (F.e rfl) rfl _ (b_lss (decide_eq_false (by omega)))) ?_; clear F a; intro a F
 refine wpList_nil ?_
 replace F : Fr 195 a [(0, .pointer (some ⟨g, 0, none⟩)), (1, .slice (some adb) 64 c), (4, .pointer (some ⟨g4, 0, none⟩)), (8, .pointer (some ⟨g8, 0, none⟩)), (16, .int .i64 ((64 : Nat) : Int)), (17, .bool false), (98, .int .i64 ((64 : Nat) : Int)), (99, .bool false)] := F.keep ⟨rfl, rfl, rfl, rfl, rfl, rfl, rfl, rfl, trivial⟩
 refine then_n ?_
 refine wp_seq ?_
 refine wp_cond_false (F.e rfl) ?_
 refine wp_exit ?_
 refine then_x ?_
 refine then_x ?_
 refine in_hit ?_
 refine then_n ?_
 refine wp_seq ?_
 refine wp_region_lit ?_
 refine list_val F (wn rfl) rfl rfl (.agg ((wcs v8).toArray)) (ex_load _ _ rfl _ (F.e rfl) _ (lvr (cs := wcs v8) (by rw [wcs_len, show _ = 8 from hvl]; exact dc_row_74_8) (M.at (i := 0) rfl))) ?_; clear F a; intro a F
 refine list_val F (wn rfl) rfl rfl (.int .i64 0) (ex_move _ rfl _ rfl) ?_; clear F a; intro a F
 refine wpList_nil ?_
 replace F : Fr 195 a [(0, .pointer (some ⟨g, 0, none⟩)), (1, .slice (some adb) 64 c), (4, .pointer (some ⟨g4, 0, none⟩)), (8, .pointer (some ⟨g8, 0, none⟩)), (16, .int .i64 ((64 : Nat) : Int)), (17, .bool false), (98, .int .i64 ((64 : Nat) : Int)), (99, .bool false), (178, .agg ((wcs v8).toArray)), (179, .int .i64 0)] := F.keep ⟨rfl, rfl, rfl, rfl, rfl, rfl, rfl, rfl, rfl, rfl, trivial⟩
 refine then_n ?_
 refine wp_block ?_
 refine wp_loopN (fun mq ar wr => ∃ (i : Nat), ∃ (h2 : List Wd), Fr 195 ar [(0, .pointer (some ⟨g, 0, none⟩)), (1, .slice (some adb) 64 c), (4, .pointer (some ⟨g4, 0, none⟩)), (8, .pointer (some ⟨g8, 0, none⟩)), (16, .int .i64 ((64 : Nat) : Int)), (17, .bool false), (98, .int .i64 ((64 : Nat) : Int)), (99, .bool false), (178, .agg ((wcs v8).toArray)), (179, .int .i64 i)] ∧ Mm (cutW w g) wr [⟨g, (hcs h2 sl m).toArray, 82⟩] ∧ w.grownBy wr (some g) ∧ At wr adb (bcs b) ∧ i ≤ 8 ∧ h2 = addTo h v8 i ∧ h2.length = 8 ∧ mq + i = 8) 8 ?_ ?_
 ·
  exact ⟨0, h, F.keep ⟨rfl, rfl, rfl, rfl, rfl, rfl, rfl, rfl, rfl, rfl, trivial⟩, (by refine M.pick' [2] _ ?_ (by decide); exact ⟨rfl, trivial⟩), G_, hB, (Nat.zero_le _), (addTo_zero _ _).symm, hh, (by omega)⟩
 clear F M a G_ hB
 rintro mq a u ⟨i, h2, F, M, G_, hB, hi1, hh2, h2l, hq⟩; try clear v
 by_cases hi : i < 8
 ·
  refine wp_seq ?_
  refine wp_region_lit ?_
  refine list_val F (wn rfl) rfl rfl (.bool true) (ex_bin .lss _ _ _ _ rfl .i64 _ _ (F.e rfl) rfl _ (b_lss (decide_eq_true (by omega)))) ?_; clear F a; intro a F
  refine wpList_nil ?_
  replace F : Fr 195 a [(0, .pointer (some ⟨g, 0, none⟩)), (1, .slice (some adb) 64 c), (4, .pointer (some ⟨g4, 0, none⟩)), (8, .pointer (some ⟨g8, 0, none⟩)), (16, .int .i64 ((64 : Nat) : Int)), (17, .bool false), (98, .int .i64 ((64 : Nat) : Int)), (99, .bool false), (178, .agg ((wcs v8).toArray)), (179, .int .i64 i), (180, .bool true)] := F.keep ⟨rfl, rfl, rfl, rfl, rfl, rfl, rfl, rfl, rfl, rfl, rfl, trivial⟩
  refine then_n ?_
  refine wp_seq ?_
  refine wp_cond_true (F.e rfl) ?_
  refine wp_skip ?_
  refine then_n ?_
  refine wp_seq ?_
  refine wp_block ?_
  refine wp_seq ?_
  refine wp_region_lit ?_
  refine list_val F (wn rfl) rfl rfl (.int .i64 i) (ex_move _ rfl _ (F.e rfl)) ?_; clear F a; intro a F
  refine list_val F (wn rfl) rfl rfl (wv (v8.getD i 0)) (ex_ixv 74 73 _ _ rfl 8 Tryd.underlying74 dc_plainKey_73 dc_info_73_map_size_some_1 _ (F.e rfl) .i64 _ (F.e rfl) i rfl (by omega) _ (wcs_arr (by omega))) ?_; clear F a; intro a F
  refine list_val F (wn rfl) rfl rfl (.int .i64 i) (ex_assign _ rfl _ (F.e rfl)) ?_; clear F a; intro a F
  refine list_val F (wn rfl) rfl rfl (wv (v8.getD i 0)) (ex_assign _ rfl _ (F.e rfl)) ?_; clear F a; intro a F
  refine wpList_nil ?_
  replace F : Fr 195 a [(0, .pointer (some ⟨g, 0, none⟩)), (1, .slice (some adb) 64 c), (4, .pointer (some ⟨g4, 0, none⟩)), (8, .pointer (some ⟨g8, 0, none⟩)), (14, .int .i64 i), (15, wv (v8.getD i 0)), (16, .int .i64 ((64 : Nat) : Int)), (17, .bool false), (98, .int .i64 ((64 : Nat) : Int)), (99, .bool false), (178, .agg ((wcs v8).toArray)), (179, .int .i64 i), (180, .bool true)] := F.keep ⟨rfl, rfl, rfl, rfl, rfl, rfl, rfl, rfl, rfl, rfl, rfl, rfl, rfl, trivial⟩
  refine then_n ?_
  refine region_tail 11 dc_follows_mixedOrders (by kernel_rfl) M ?_; clear M; intro v M hb
  replace G_ := gw_below G_ hb
  replace hB := hB.below hb
  clear hb; try clear u
  refine still_val F (wn rfl) rfl rfl (.pointer (some ⟨g, 0, none⟩)) (ex_move _ rfl _ (F.e rfl)) ?_; clear F a; intro a F
  refine still_val F (wn rfl) rfl rfl (.int .i64 i) (ex_move _ rfl _ (F.e rfl)) ?_; clear F a; intro a F
  refine still_val F (wn rfl) rfl rfl (.pointer (some ⟨g, 0, none⟩)) (ex_nilck _ rfl _ (F.e rfl)) ?_; clear F a; intro a F
  refine still_val F (wn rfl) rfl rfl (.pointer (some ⟨g, 0, none⟩)) (ex_fa _ _ _ rfl _ (F.e rfl) 0 dc_fa_82_0_0 ⟨g, 0, none⟩ rfl) ?_; clear F a; intro a F
  refine still_val F (wn rfl) rfl rfl (.pointer (some ⟨g, i, none⟩)) (ex_ixa _ _ _ rfl 8 dc_ar_74_8 ⟨g, 0, none⟩ (F.e rfl) .i64 _ (F.e rfl) i rfl (by omega) ⟨g, i, none⟩ ((addr_add _ _ _).trans (by rw [Nat.zero_add]))) ?_; clear F a; intro a F
  refine still_val F (wn rfl) rfl rfl (wv (h2.getD i 0)) (ex_load _ _ rfl _ (F.e rfl) _ (lv1 dc_one_73 (M.cell (i := 0) rfl (j := i) (hcs_arr (by omega))))) ?_; clear F a; intro a F
  refine still_val F (wn rfl) rfl rfl (wv (v8.getD i 0)) (ex_move _ rfl _ (F.e rfl)) ?_; clear F a; intro a F
  refine still_val F (wn rfl) rfl rfl (wv ((h2.getD i 0) + (v8.getD i 0))) (ex_addw _ _ _ _ rfl (h2.getD i 0) (v8.getD i 0) (F.e rfl) (F.e rfl)) ?_; clear F a; intro a F
  refine still_val F (wn rfl) rfl rfl (.pointer (some ⟨g, 0, none⟩)) (ex_nilck _ rfl _ (F.e rfl)) ?_; clear F a; intro a F
  refine still_val F (wn rfl) rfl rfl (.pointer (some ⟨g, 0, none⟩)) (ex_fa _ _ _ rfl _ (F.e rfl) 0 dc_fa_82_0_0 ⟨g, 0, none⟩ rfl) ?_; clear F a; intro a F
  refine still_val F (wn rfl) rfl rfl (.pointer (some ⟨g, i, none⟩)) (ex_ixa _ _ _ rfl 8 dc_ar_74_8 ⟨g, 0, none⟩ (F.e rfl) .i64 _ (F.e rfl) i rfl (by omega) ⟨g, i, none⟩ ((addr_add _ _ _).trans (by rw [Nat.zero_add]))) ?_; clear F a; intro a F
  refine still_end ?_
  refine list_do (wn rfl) (fun K hK => ?_)
  refine ow_store F M rfl 73 _ _ rfl 0 g _ _ rfl (i) (F.e rfl) _ (F.e rfl) [wv ((h2.getD i 0) + (v8.getD i 0))] rfl dc_info_73_map_size_some_1 (by rw [List.size_toArray, hcs_len]; simp; omega) (by simp [wv, Value.oneCell']) (hcs (h2.set i ((h2.getD i 0) + (v8.getD i 0))) sl m).toArray (congrArg List.toArray (hcs_set _ (by omega))) ?_
  clear F a; have Mo := M; clear M; intro a u F M hgr
  refine hK _ _ ?_
  clear hK K
  replace G_ := G_.trans hgr
  replace hB := at_grown hB hgr hne
  clear Mo hgr; try clear v
  replace M : Mm (cutW w g) u [⟨g, (hcs (h2.set i ((h2.getD i 0) + (v8.getD i 0))) sl m).toArray, 82⟩] := M
  refine wpList_nil ?_
  replace F : Fr 195 a [(0, .pointer (some ⟨g, 0, none⟩)), (1, .slice (some adb) 64 c), (4, .pointer (some ⟨g4, 0, none⟩)), (8, .pointer (some ⟨g8, 0, none⟩)), (14, .int .i64 i), (15, wv (v8.getD i 0)), (16, .int .i64 ((64 : Nat) : Int)), (17, .bool false), (98, .int .i64 ((64 : Nat) : Int)), (99, .bool false), (178, .agg ((wcs v8).toArray)), (179, .int .i64 i), (180, .bool true)] := F.keep ⟨rfl, rfl, rfl, rfl, rfl, rfl, rfl, rfl, rfl, rfl, rfl, rfl, rfl, trivial⟩
  refine in_n ?_
  refine then_n ?_
  refine wp_region_lit ?_
  refine list_val F (wn rfl) rfl rfl (.int .i64 (i + 1)) (ex_bin .add _ _ _ _ rfl .i64 _ _ (F.e rfl) rfl _ (b_add (w_i64 (by omega) (by omega)))) ?_; clear F a; intro a F
  refine list_val F (wn rfl) rfl rfl (.int .i64 (i + 1)) (ex_move _ rfl _ (F.e rfl)) ?_; clear F a; intro a F
  refine wpList_nil ?_
  replace F : Fr 195 a [(0, .pointer (some ⟨g, 0, none⟩)), (1, .slice (some adb) 64 c), (4, .pointer (some ⟨g4, 0, none⟩)), (8, .pointer (some ⟨g8, 0, none⟩)), (14, .int .i64 i), (15, wv (v8.getD i 0)), (16, .int .i64 ((64 : Nat) : Int)), (17, .bool false), (98, .int .i64 ((64 : Nat) : Int)), (99, .bool false), (178, .agg ((wcs v8).toArray)), (179, .int .i64 (i + 1)), (180, .bool true)] := F.keep ⟨rfl, rfl, rfl, rfl, rfl, rfl, rfl, rfl, rfl, rfl, rfl, rfl, rfl, trivial⟩
  refine then_n ?_
  exact ⟨8 - (i + 1), by omega, (i + 1), (h2.set i ((h2.getD i 0) + (v8.getD i 0))), F.keep ⟨rfl, rfl, rfl, rfl, rfl, rfl, rfl, rfl, rfl, rfl, trivial⟩, (by refine M.pick' [0] _ ?_ (by decide); exact ⟨rfl, trivial⟩), G_, hB, (by omega), (by rw [hh2, addTo_get hh hvl hi]; exact addTo_step hh hvl hi), (by rw [List.length_set]; exact h2l), (by omega)⟩
 obtain rfl : i = 8 := by omega
 rw [addTo_all hh hvl] at hh2
 refine wp_seq ?_
 refine wp_region_lit ?_
 refine list_val F (wn rfl) rfl rfl (.bool false) (ex_bin .lss _ _ _ _ rfl .i64 _ _ (F.e rfl) rfl _ (b_lss (decide_eq_false (by omega)))) ?_; clear F a; intro a F
 refine wpList_nil ?_
 replace F : Fr 195 a [(0, .pointer (some ⟨g, 0, none⟩)), (1, .slice (some adb) 64 c), (4, .pointer (some ⟨g4, 0, none⟩)), (8, .pointer (some ⟨g8, 0, none⟩)), (16, .int .i64 ((64 : Nat) : Int)), (17, .bool false), (98, .int .i64 ((64 : Nat) : Int)), (99, .bool false), (178, .agg ((wcs v8).toArray)), (179, .int .i64 ((8 : Nat) : Int)), (180, .bool false)] := F.keep ⟨rfl, rfl, rfl, rfl, rfl, rfl, rfl, rfl, rfl, rfl, rfl, trivial⟩
 refine then_n ?_
 refine wp_seq ?_
 refine wp_cond_false (F.e rfl) ?_
 refine wp_exit ?_
 refine then_x ?_
 refine then_x ?_
 refine in_hit ?_
 have hfin : blk h b = h2 := by rw [blk, ← hws, ← hv]; exact hh2.symm
 rw [hfin]
 exact ret_none F rfl ⟨rfl, G_, M.blk 0 _ rfl⟩
end Go.Proofs.YtkppipeadibfkaaDoor
