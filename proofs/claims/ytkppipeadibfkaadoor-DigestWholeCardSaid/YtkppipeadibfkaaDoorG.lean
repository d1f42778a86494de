/- Several rows of bytes of one's own beside blocks of one's own; the laws of one operation each on rows of bytes, arrays of bytes, strings. No conditions but those of each lemma. -/
import Derived.Test.YtkppipeadibfkaaDoorF
import Derived.Lib.AppendStr
import Derived.Lib.ConvBytes
import Derived.Laws.BytesArg
import Derived.Laws.CopyRow
import Derived.Laws.IdiomCopy
namespace Go.Proofs.YtkppipeadibfkaaDoor
open Go.RowKit Go.Proofs.YtkppipeadibfkaaDoorW.PrintWords KB WG
set_option linter.unusedVariables false
set_option linter.unusedSimpArgs false
set_option linter.unnecessarySimpa false
abbrev Rw : Type := Value × List By
/-- Rows of bytes of one's own, apart from one another. -/
structure Rs (w0 w : World) (l : List Rw) : Prop where
  own : ∀ (i : Nat) (v : Value) (bs : List By), l[i]? = some (v, bs) → OwB w w0.heap.size v bs
  nd : ∀ (i j : Nat) (v u : Value) (bs cs : List By) (k : Nat), l[i]? = some (v, bs) → l[j]? = some (u, cs) → v.ownBlock = some k → u.ownBlock = some k → i = j
theorem Rs.nil (w0 w : World) : Rs w0 w [] := ⟨fun _ _ _ h => by simp at h, fun _ _ _ _ _ _ _ h => by simp at h⟩
theorem Rs.below {w0 w w' : World} {l : List Rw} (R : Rs w0 w l) (hb : Below w.heap.size w w') : Rs w0 w' l := ⟨fun i v bs h => (R.own i v bs h).below hb, R.nd⟩
theorem Rs.box {w0 w w' : World} {l : List Rw} (R : Rs w0 w l) {g t : Nat} {cells : Array Value} (hbk : w.heap[g]? = some (.cells cells t (0, 0))) (ht : 5 ≠ t) (hg : w.grownBy w' (some g)) : Rs w0 w' l := ⟨fun i v bs h => (R.own i v bs h).grown hbk ht hg, R.nd⟩
theorem Rs.new {w0 w w' : World} {l : List Rw} (R : Rs w0 w l) (hb : Below w.heap.size w w') (hw : w0.heap.size ≤ w.heap.size) {v : Value} {bs : List By} (hO : OwB w' w.heap.size v bs) : Rs w0 w' ((v, bs) :: l) where
  own := fun i u cs h => by
    cases i with
    | zero => obtain ⟨rfl, rfl⟩ : v = u ∧ bs = cs := by simpa using h
              exact hO.low hw
    | succ i => exact (R.own i u cs (by simpa using h)).below hb
  nd := fun i j a b bs1 bs2 k hi hj ha hb2 => by
    cases i with
    | zero =>
      obtain ⟨rfl, rfl⟩ : v = a ∧ bs = bs1 := by simpa using hi
      cases j with
      | zero => rfl
      | succ j => have h1 := (hO.bound ha).1; have h2 := ((R.own j b bs2 (by simpa using hj)).bound hb2).2.1; omega
    | succ i =>
      cases j with
      | zero => obtain ⟨rfl, rfl⟩ : v = b ∧ bs = bs2 := by simpa using hj
                have h1 := (hO.bound hb2).1; have h2 := ((R.own i a bs1 (by simpa using hi)).bound ha).2.1; omega
      | succ j => rw [R.nd i j a b bs1 bs2 k (by simpa using hi) (by simpa using hj) ha hb2]
theorem Rs.addnil {w0 w : World} {l : List Rw} (R : Rs w0 w l) : Rs w0 w ((.slice none 0 0, []) :: l) where
  own := fun i u cs h => by
    cases i with
    | zero => obtain ⟨rfl, rfl⟩ : Value.slice none 0 0 = u ∧ [] = cs := by simpa using h
              exact owB_nil w _
    | succ i => exact R.own i u cs (by simpa using h)
  nd := fun i j a b bs1 bs2 k hi hj ha hb2 => by
    cases i with
    | zero => obtain ⟨rfl, _⟩ : Value.slice none 0 0 = a ∧ [] = bs1 := by simpa using hi
              simp [Value.ownBlock] at ha
    | succ i =>
      cases j with
      | zero => obtain ⟨rfl, _⟩ : Value.slice none 0 0 = b ∧ [] = bs2 := by simpa using hj
                simp [Value.ownBlock] at hb2
      | succ j => rw [R.nd i j a b bs1 bs2 k (by simpa using hi) (by simpa using hj) ha hb2]
def rpicks (H : List Rw) : List Nat → List Rw → Prop
  | [], [] => True
  | i :: is, b :: H' => H[i]? = some b ∧ rpicks H is H'
  | _, _ => False
theorem rpicks_get {H : List Rw} : ∀ {is : List Nat} {H' : List Rw}, rpicks H is H' → ∀ (k : Nat) (b : Rw), H'[k]? = some b → ∃ j, is[k]? = some j ∧ H[j]? = some b
  | [], [], _, k, b, h => by simp at h
  | [], _ :: _, h, _, _, _ => h.elim
  | _ :: _, [], h, _, _, _ => h.elim
  | i :: is, c :: H', ⟨h1, h2⟩, k, b, h => by
    cases k with
    | zero => obtain rfl : c = b := by simpa using h
              exact ⟨i, by simp, h1⟩
    | succ k => obtain ⟨j, hj, hb⟩ := rpicks_get h2 k b (by simpa using h)
                exact ⟨j, by simpa using hj, hb⟩
theorem Rs.pick {w0 w : World} {l : List Rw} (R : Rs w0 w l) (is : List Nat) (l' : List Rw) (h : rpicks l is l') (hd : is.Nodup) : Rs w0 w l' where
  own := fun i v bs hi => by obtain ⟨j, _, hb⟩ := rpicks_get h i _ hi; exact R.own j v bs hb
  nd := fun i k v u bs cs m hi hk e1 e2 => by
    obtain ⟨j, hj, hb⟩ := rpicks_get h i _ hi
    obtain ⟨q, hq, hc⟩ := rpicks_get h k _ hk
    have := R.nd j q v u bs cs m hb hc e1 e2
    subst this
    have e3 := (List.getElem?_eq_some_iff.1 hj).2
    have e4 := (List.getElem?_eq_some_iff.1 hq).2
    exact (List.getElem_inj hd).1 (e3.trans e4.symm)
theorem Rs.app {w0 w w' : World} {l : List Rw} (R : Rs w0 w l) {i : Nat} {v v1 : Value} {xs zs : List By} (hi : l[i]? = some (v, xs)) (hg : w.grownBy w' v.ownBlock) (hO : OwB w' w0.heap.size v1 zs) (hat : v1.ownBlock = v.ownBlock ∨ ∃ k, v1.ownBlock = some k ∧ w.heap.size ≤ k) : Rs w0 w' (l.set i (v1, zs)) where
  own := fun j u cs h => by
    rw [List.getElem?_set] at h
    split at h
    · split at h
      · obtain ⟨rfl, rfl⟩ : v1 = u ∧ zs = cs := by simpa using h
        exact hO
      · cases h
    · rename_i hne
      exact (R.own j u cs h).far hg (fun k hk e => hne (R.nd i j v u xs cs k hi h e.symm hk))
  nd := fun j k a b bs1 bs2 m hj hk ha hb => by
    have key : ∀ (j : Nat) (a : Value) (bs1 : List By), (l.set i (v1, zs))[j]? = some (a, bs1) → a.ownBlock = some m → j = i ∧ v1.ownBlock = some m ∨ j ≠ i ∧ l[j]? = some (a, bs1) := fun j a bs1 h e => by
      rw [List.getElem?_set] at h
      split at h
      · rename_i e2
        split at h
        · obtain ⟨rfl, rfl⟩ : v1 = a ∧ zs = bs1 := by simpa using h
          exact .inl ⟨e2.symm, e⟩
        · cases h
      · rename_i e2; exact .inr ⟨fun e3 => e2 e3.symm, h⟩
    have far : ∀ (j : Nat) (a : Value) (bs1 : List By), j ≠ i → l[j]? = some (a, bs1) → a.ownBlock = some m → v1.ownBlock = some m → False := fun j a bs1 hne h e1 e2 => by
      rcases hat with h3 | ⟨k, h3, h4⟩
      · exact hne (R.nd j i a v bs1 xs m h hi e1 (by rw [← h3]; exact e2))
      · rw [e2] at h3
        have := Option.some.inj h3
        have := ((R.own j a bs1 h).bound e1).2.1
        omega
    rcases key j a bs1 hj ha with ⟨h1, h2⟩ | ⟨h1, h2⟩ <;> rcases key k b bs2 hk hb with ⟨h3, h4⟩ | ⟨h3, h4⟩
    · rw [h1, h3]
    · exact (far k b bs2 h3 h4 hb h2).elim
    · exact (far j a bs1 h1 h2 ha h4).elim
    · exact R.nd j k a b bs1 bs2 m h2 h4 ha hb
theorem Rs.rb {w0 w : World} {l : List Rw} (R : Rs w0 w l) {i : Nat} {A : Option Addr} {n c : Nat} {bs : List By} (hi : l[i]? = some (.slice A n c, bs)) : Rb w A n bs := (R.own i _ _ hi).rb.1
theorem Rs.cap {w0 w : World} {l : List Rw} (R : Rs w0 w l) {i : Nat} {A : Option Addr} {n c : Nat} {bs : List By} (hi : l[i]? = some (.slice A n c, bs)) : n ≤ c := (R.own i _ _ hi).rb.2
theorem cons_nd {H : List Nat} : H.Nodup ↔ H.Nodup := Iff.rfl
section
variable {a : Act} {w w0 : World} {n : Nat} {L : List (Nat × Value)} {H : List Blk} {lr : List Rw} {op : Oper} {K : Act → World → Prop} {Q : Exit → Act → World → Prop} {ρ : Operand → Value}
/-- A row of bytes written out. -/
theorem ow_lit (F : Fr n a L) (M : Mm w0 w H) (R : Rs w0 w lr) {d : Nat} (hd : op.dst = some d) (hlt : Nat.blt d n = true) (l : Nat) (ps : Array (Nat × Operand)) (ho : op.op = .buildSlice 23 l ps) (qs : Array (Nat × Value)) (hq : (ps.map fun (i, x) => (i, a.eval x)) = qs) (bs : List By) (hl : bs.length = l) (hm : Nat.ble l maxLen = true)
    (hr : (Instr.buildSlice 23 l qs).run Tryd.prog w = .ok (.slice (some ⟨w.heap.size, 0, none⟩) l l) (w.alloc (.cells (bcs bs).toArray 5)))
    (h : ∀ a' g w', Fr n a' ((d, .slice (some ⟨g, 0, none⟩) l l) :: L) → Mm w0 w' H → Rs w0 w' ((.slice (some ⟨g, 0, none⟩) l l, bs) :: lr) → Below w.heap.size w w' → K a' w') : op.wp Tryd.prog a w K Q := by
  unfold Oper.wp execOp
  simp only [ho]
  subst hq
  simp only [Sem.run_bind, hr, Result.andThen_ok, Sem.run_pure]
  have hb : Below w.heap.size w (w.alloc (.cells (bcs bs).toArray 5)) := (Below.refl _ _).alloc (Nat.le_refl _) _
  refine h _ w.heap.size _ ?_ (M.below hb) (R.new hb M.bel.size (OwB.of_block (bs := bs) (sp := []) ?_ (Nat.le_refl _) hl.symm (Nat.le_refl _) (Nat.le_of_ble_eq_true hm) (by rw [List.append_nil, bcs_len]; exact hl))) hb
  · rw [hd]; exact F.put _ hlt
  · rw [List.append_nil]; exact blk_of_alloc _ _ _
/-- append to one of the rows. -/
theorem ow_appR (F : Fr n a L) (M : Mm w0 w H) (R : Rs w0 w lr) (hT : H.all (fun b => b.t != 5) = true) {d : Nat} (hd : op.dst = some d) (hlt : Nat.blt d n = true) (hgd : op.guard = none) (s x : Operand) (ho : op.op = .call { callee := .builtin .append, args := #[s, x], argTypes := #[23, 23] })
    (i : Nat) (B : Option Addr) (q b : Nat) (xs ys zs : List By) (hi : lr[i]? = some (.slice B q b, xs)) (hz : xs ++ ys = zs) (A : Option Addr) (m c : Nat) (hs : a.eval s = .slice B q b) (hx : a.eval x = .slice A m c) (HR : Rb w A m ys) (hl : xs.length + m ≤ 140737488355328)
    (h : ∀ a' A1 c1 w', Fr n a' ((d, .slice A1 zs.length c1) :: L) → Mm w0 w' H → Rs w0 w' (lr.set i (.slice A1 zs.length c1, zs)) → K a' w') : op.wp Tryd.prog a w K Q :=
  ow_appZ F M hT hd hlt hgd s x ho B q b xs ys zs hz A m c hs hx (R.own i _ _ hi) HR hl (fun a' A1 c1 w' F' M' O' hg hat => h a' A1 c1 w' F' M' (R.app hi hg O' hat))
theorem rs_one {w0 w : World} {v : Value} {bs : List By} (hO : OwB w w0.heap.size v bs) : Rs w0 w [(v, bs)] where
  own := fun j u cs hj => by
    match j, hj with
    | 0, hj =>
      have e : (v, bs) = (u, cs) := Option.some.inj hj
      injection e with e1 e2
      subst e1 e2
      exact hO
    | j + 1, hj => simp at hj
  nd := fun j k _ _ _ _ _ hj hk _ _ => by
    have h1 := (List.getElem?_eq_some_iff.1 hj).1
    have h2 := (List.getElem?_eq_some_iff.1 hk).1
    simp at h1 h2
    omega
/-- append of a string's bytes. -/
def strB (bs : List By) : ByteArray := ⟨(bs.map UInt8.ofBitVec).toArray⟩
theorem strB_size (bs : List By) : (strB bs).size = bs.length := by simp [strB, ByteArray.size]
theorem strB_cells (bs : List By) : Lib.strCells (strB bs) = bcs bs := by
  simp only [Lib.strCells, strB, bcs]
  rw [List.map_map]
  refine List.map_congr_left fun b _ => ?_
  rfl
theorem strB_inj {x y : List By} (h : strB x = strB y) : x = y := by
  unfold strB at h
  injection h with h
  have := List.toArray_inj h
  exact (List.map_inj_right (fun a b e => by injection e)).1 this
theorem ow_appS (F : Fr n a L) (M : Mm w0 w H) (R : Rs w0 w lr) (hT : H.all (fun b => b.t != 5) = true) {d : Nat} (hd : op.dst = some d) (hlt : Nat.blt d n = true) (s x : Operand) (ho : op.op = .call { callee := .builtin .append, args := #[s, x], argTypes := #[23, 9] })
    (i : Nat) (B : Option Addr) (q b : Nat) (xs ys zs : List By) (hi : lr[i]? = some (.slice B q b, xs)) (hz : xs ++ ys = zs) (hs : a.eval s = .slice B q b) (hx : a.eval x = .string (strB ys)) (hl : xs.length + ys.length ≤ 140737488355328)
    (h : ∀ a' A1 c1 w', Fr n a' ((d, .slice A1 zs.length c1) :: L) → Mm w0 w' H → Rs w0 w' [(.slice A1 zs.length c1, zs)] → K a' w') : op.wp Tryd.prog a w K Q := by
  obtain ⟨i0, hin, hzz⟩ := Option.map_eq_some_iff.1 info5z
  simp only [Prod.mk.injEq] at hzz
  obtain ⟨hz0, hz1, hz2⟩ := hzz
  have hO := R.own i _ _ hi
  obtain ⟨hq, hqb⟩ := hO.rb
  have hql := hq.1
  obtain ⟨h0, inner, ho1, hr1⟩ := hO
  have hinner : inner = bcs xs := by
    obtain ⟨h1, h2⟩ := hr1
    apply List.ext_getElem?
    intro t
    rcases Nat.lt_or_ge t xs.length with ht | ht
    · obtain ⟨k, hk⟩ : ∃ k, xs[t]? = some k := ⟨_, List.getElem?_eq_getElem ht⟩
      have h3 : (inner.drop (t * 1)).take 1 = [bv k] := h2 t k hk
      rw [Nat.mul_one] at h3
      have h4 : ((inner.drop t).take 1)[0]? = some (bv k) := by rw [h3]; rfl
      rw [List.getElem?_take_of_lt (by decide), List.getElem?_drop, Nat.add_zero] at h4
      rw [h4, bcs, List.getElem?_map, hk]; rfl
    · have : inner.length = xs.length * 1 := h1
      rw [List.getElem?_eq_none (by omega), List.getElem?_eq_none (by rw [bcs_len]; exact ht)]
  subst hinner
  have ho2 : w.ownsRow w0.heap.size 5 1 (.slice B q b) xs.length (bcs xs) := ho1
  obtain ⟨v1, w1, hrun, hown, hg, hnil⟩ := Lib.run_append_own_string (P := Tryd.prog) w w0.heap.size 23 9 op.type 5 i0 Tryd.underlying23 (by kernel_rfl) hin hz0 hz1 hz2 (.slice B q b) xs.length (bcs xs) ho2 (strB ys) (by rw [strB_size]; simp only [maxLen]; omega) (by rw [strB_size]; exact hl) M.bel.size
  rw [strB_cells, strB_size] at hown
  subst hz
  have hlz : (xs ++ ys).length = xs.length + ys.length := List.length_append
  have hbz : bcs xs ++ bcs ys = bcs (xs ++ ys) := by simp [bcs]
  rw [hbz, ← hlz] at hown
  have hO1 : OwB w1 w0.heap.size v1 (xs ++ ys) := ⟨fun _ _ => trivial, bcs (xs ++ ys), hown, by
    refine ⟨by rw [bcs_len]; exact (Nat.mul_one _).symm, fun j k hk => ?_⟩
    show ((bcs (xs ++ ys)).drop (j * 1)).take 1 = [bv k]
    obtain ⟨h1, h2⟩ := List.getElem?_eq_some_iff.1 hk
    rw [Nat.mul_one, bcs, ← List.map_drop, ← List.map_take, List.drop_eq_getElem_cons h1, h2]
    rfl⟩
  obtain ⟨A1, c1, rfl⟩ := hO1.slice
  have hM := M.grownB (R.own i _ _ hi) hT hg
  unfold Oper.wp execOp
  simp only [ho, resolve, invoke, builtin, Sem.run_bind, Sem.run_pure, Result.andThen_ok, List.map_toArray, List.map_cons, List.map_nil, hs, hx, hrun]
  exact (by rw [hd]; exact h _ A1 c1 w1 (F.put _ hlt) hM (rs_one hO1) : K (a.put op.dst _) w1)
/-- make([]byte, 0, c). -/
theorem ow_make0 (F : Fr n a L) (M : Mm w0 w H) (R : Rs w0 w lr) {d : Nat} (hd : op.dst = some d) (hlt : Nat.blt d n = true) (x y : Operand) (ho : op.op = .makeSlice 23 x y) (hx : a.eval x = .int .i64 0) (m : Int) (hy : a.eval y = .int .i64 m) (c : Nat) (hm : m = (c : Int)) (hc : c ≤ 140737488355328)
    (h : ∀ a' g w', Fr n a' ((d, .slice (some ⟨g, 0, none⟩) 0 c) :: L) → Mm w0 w' H → Rs w0 w' ((.slice (some ⟨g, 0, none⟩) 0 c, []) :: lr) → K a' w') : op.wp Tryd.prog a w K Q := by
  subst hm
  obtain ⟨i0, hi, hzz⟩ := Option.map_eq_some_iff.1 info5z
  simp only [Prod.mk.injEq] at hzz
  obtain ⟨hz0, hz1, hz2⟩ := hzz
  obtain ⟨w', hr, hown, hg⟩ := run_make_own (P := Tryd.prog) w w.heap.size 23 5 i0 (.int .u8 0) 1 Tryd.underlying23 hi hz0 hz1 .i64 .i64 c (by rw [hz2]; omega) (by simp only [maxLen]; omega) (Nat.le_refl _)
  have hb : Below w.heap.size w w' := (Below.refl _ w).grown hg (Nat.le_refl _) (fun k hk => by cases hk)
  unfold Oper.wp execOp
  simp only [ho, hx, hy, Sem.run_bind, hr, Result.andThen_ok, Sem.run_pure]
  exact (by rw [hd]; exact h _ _ w' (F.put _ hlt) (M.below hb) (R.new hb M.bel.size ⟨fun _ _ => trivial, [], hown, Reps.none _ _⟩) : K (a.put op.dst _) w')
/-- An element of a row. -/
theorem ex_ixB {w1 : World} (x y : Operand) (ho : op.op = .indexAddr 23 x y) (A : Option Addr) (m c : Nat) (hx : ρ x = .slice A m c) (k : IntKind) (i : Int) (hy : ρ y = .int k i) (j : Nat) (hj : i = (j : Int)) (hlt : j < m) (bs : List By) (hB : Rb w1 A m bs) : (execOp ρ op).run Tryd.prog w = .ok (.value (.pointer (A.map (·.add j)))) w := by
  obtain ⟨ad, rfl, _⟩ := hB.ex (by omega)
  exact ex_ix 23 x y ho 1 (by kernel_rfl) ad m c hx k i hy j hj hlt _ (congrArg _ (Nat.mul_one _))
theorem ex_ldB (x : Operand) (ho : op.op = .load 5 x) (A : Option Addr) (m j : Nat) (bs : List By) (hx : ρ x = .pointer (A.map (·.add j))) (hlt : j < m) (hB : Rb w A m bs) : (execOp ρ op).run Tryd.prog w = .ok (.value (bv (bs.getD j 0))) w := by
  obtain ⟨ad, rfl, hA⟩ := hB.ex (by omega)
  exact ex_load 5 x ho _ hx _ (lv1 (by kernel_rfl) (hA.cell j _ (bcs_get (by rw [hB.1]; exact hlt))))
/-- arr[:]. -/
def sa? (P : Program) (t n : Nat) : Bool := match P.underlying t with | some (.array m e) => Nat.beq m n && Nat.blt 0 n && (match P.info? e with | some i => true | none => false) | _ => false
theorem ex_all {P : Program} (T : TypeId) (x : Operand) (ho : op.op = .slice T x none none none) (n : Nat) (ht : sa? P T n = true) (p : Addr) (hx : ρ x = .pointer (some p)) : (execOp ρ op).run P w = .ok (.value (.slice (some p) n n)) w := by
  unfold sa? at ht
  cases hu : P.underlying T with
  | none => simp [hu] at ht
  | some d =>
    cases d with
    | array m e =>
      simp only [hu, Bool.and_eq_true] at ht
      obtain ⟨⟨h1, h2⟩, h3⟩ := ht
      obtain rfl := Nat.eq_of_beq_eq_true h1
      have h0 : 0 < m := by simpa [Nat.blt_eq] using h2
      cases hi : P.info? e with
      | none => simp [hi] at h3
      | some inf =>
        have hl : P.arrayLen T = m := by simp [Program.arrayLen, hu]
        have he : P.elem T = e := by simp [Program.elem, hu]
        have hr := run_sliceAt_array_all (P := P) w T p (by rw [hl, he]; exact hu)
        rw [hl, he] at hr
        have e1 : ((sizeOf e).run P w).andThen (fun s w => Result.ok (slicedAt p 0 m m s) w) = .ok (.slice (some p) m m) w := by
          have hne : ¬ m = 0 := by omega
          simp [sizeOf, typeInfo, hi, Result.andThen, slicedAt, hne, Addr.add]
        rw [e1] at hr
        unfold execOp
        simp only [ho, hx, Option.map_none, Sem.run_bind, hr, Result.andThen_ok, Sem.run_pure]
    | _ => simp [hu] at ht
/-- copy into an array of one's own. -/
theorem ow_copy (F : Fr n a L) (M : Mm w0 w H) {d : Nat} (hd : op.dst = some d) (hlt : Nat.blt d n = true) (x y : Operand) (ho : op.op = .call { callee := .builtin .copy, args := #[x, y], argTypes := #[23, 23] })
    (i g : Nat) (l : List By) (t : TypeId) (hi : H[i]? = some ⟨g, (bcs l).toArray, t⟩) (q : Nat) (hq : l.length = q) (hx : a.eval x = .slice (some ⟨g, 0, none⟩) q q) (A : Option Addr) (m c : Nat) (ys : List By) (hy : a.eval y = .slice A m c) (HR : Rb w A m ys) (l' : List By) (hl' : ys.take q ++ l.drop m = l') (r : Int) (hr : ((min m q : Nat) : Int) = r)
    (h : ∀ a' w', Fr n a' ((d, .int .i64 r) :: L) → Mm w0 w' (H.set i ⟨g, (bcs l').toArray, t⟩) → w.grownBy w' (some g) → K a' w') : op.wp Tryd.prog a w K Q := by
  subst hl' hr hq
  have hb := M.blk i _ hi
  have h5 : (Tryd.prog.info? 5).map (·.size) = some 1 := by kernel_rfl
  have hmy := HR.1
  rcases Nat.eq_zero_or_pos m with h0 | h0
  · subst h0
    obtain rfl : ys = [] := List.eq_nil_of_length_eq_zero hmy
    have hrun := run_copy_none (P := Tryd.prog) w 23 23 op.type 5 (some ⟨g, 0, none⟩) A l.length l.length 0 c Tryd.underlying23 h5 (Nat.zero_min _)
    unfold Oper.wp execOp
    simp only [ho, resolve, invoke, builtin, Sem.run_bind, Sem.run_pure, Result.andThen_ok, List.map_toArray, List.map_cons, List.map_nil, hx, hy, hrun]
    have e : H.set i ⟨g, (bcs ([].take l.length ++ l.drop 0)).toArray, t⟩ = H := by
      rw [List.take_nil, List.nil_append, List.drop_zero]
      have hv := (List.getElem?_eq_some_iff.1 hi).2
      rw [← hv, List.set_getElem_self]
    have M' : Mm w0 w (H.set i ⟨g, (bcs ([].take l.length ++ l.drop 0)).toArray, t⟩) := by rw [e]; exact M
    exact (by rw [hd]; exact h _ w (F.put _ hlt) M' ⟨rfl, rfl, rfl, Nat.le_refl _, fun _ _ _ => rfl⟩ : K (a.put op.dst _) w)
  · obtain ⟨ad, rfl, hA⟩ := HR.ex h0
    have hlc : (bcs (ys.take l.length)).length = Nat.min m l.length := by rw [bcs_len, List.length_take, hmy]; exact Nat.min_comm _ _
    have hrun := run_copy_row (P := Tryd.prog) w 23 23 op.type 5 g 0 l.length l.length ad m c (bcs l).toArray t (bcs (ys.take l.length)) Tryd.underlying23 h5 hb hlc
      (fun j v hv => hA j v (by
        rw [bcs, List.map_take, List.getElem?_take] at hv
        split at hv
        · exact hv
        · cases hv)) (by rw [hlc, List.size_toArray, bcs_len, Nat.zero_add]; exact Nat.min_le_right _ _) (bcs_one _)
    have earr : ((bcs l).toArray.toList.take 0 ++ bcs (ys.take l.length) ++ (bcs l).toArray.toList.drop (0 + (bcs (ys.take l.length)).length)).toArray = (bcs (ys.take l.length ++ l.drop m)).toArray := by
      rw [hlc]
      simp only [List.take_zero, List.nil_append, Nat.zero_add, bcs, List.map_append, List.map_drop]
      congr 2
      rcases Nat.le_total m l.length with hle | hle
      · rw [show Nat.min m l.length = m from Nat.min_eq_left hle]
      · rw [show Nat.min m l.length = l.length from Nat.min_eq_right hle, List.drop_eq_nil_of_le (by simp), List.drop_eq_nil_of_le (by simpa using hle)]
    rw [earr, hlc] at hrun
    unfold Oper.wp execOp
    simp only [ho, resolve, invoke, builtin, Sem.run_bind, Sem.run_pure, Result.andThen_ok, List.map_toArray, List.map_cons, List.map_nil, hx, hy, hrun]
    exact (by rw [hd]; exact h _ _ (F.put _ hlt) (M.grown (b := ⟨g, (bcs l).toArray, t⟩) hi _ (setRow_grown w g _) (setRow_heap w g _ _ t (0, 0) hb)) (setRow_grown w g _) : K (a.put op.dst _) _)
end
section
variable {P : Program} {op : Oper} {ρ : Operand → Value} {w : World}
/-- '^' of bytes. -/
theorem of_nat8 (x : By) : BitVec.ofInt 8 (x.toNat : Int) = x := by apply BitVec.eq_of_toNat_eq; simp [BitVec.toNat_ofInt]
theorem back8 (r : By) : IntKind.u8.wrap (r.toNat : Int) = (r.toNat : Int) := by rw [w8]; congr 1; simp
theorem ex_xorb (T T' : TypeId) (x y : Operand) (ho : op.op = .binOp .xor T x y T') (a b : By) (hx : ρ x = bv a) (hy : ρ y = bv b) : (execOp ρ op).run P w = .ok (.value (bv (a ^^^ b))) w := by
  have hb : (binOp .xor T (bv a) (bv b)).run P w = .ok (bv (a ^^^ b)) w := by
    rw [bv, bv, binOp_xor]
    unfold Op.intBits
    simp only [Sem.run_pure]
    refine congrArg (fun z => Result.ok (Value.int .u8 z) w) ?_
    refine Eq.trans ?_ (back8 _)
    refine congrArg (fun r : By => IntKind.u8.wrap (r.toNat : Int)) ?_
    exact congr (congrArg (fun p q : By => p ^^^ q) (of_nat8 a)) (of_nat8 b)
  have hg : (eqGuard .xor T x y (bv a) (bv b)).run P w = .ok () w := by simp [eqGuard]
  unfold execOp
  simp only [ho, hx, hy, Sem.run_bind, hg, hb, Result.andThen_ok, Sem.run_pure]
/-- '==', '!=' of bytes. -/
theorem by_inj {a b : By} : ((a.toNat : Int) = (b.toNat : Int)) ↔ a = b := ⟨fun h => BitVec.eq_of_toNat_eq (by omega), fun h => by rw [h]⟩
theorem ex_neqb (T T' : TypeId) (x y : Operand) (ho : op.op = .binOp .neq T x y T') (a b : By) (hx : ρ x = bv a) (hy : ρ y = bv b) (r : Bool) (hr : (!decide (a = b)) = r) : (execOp ρ op).run P w = .ok (.value (.bool r)) w :=
  ex_bin .neq T T' x y ho .u8 _ _ hx hy _ (b_neq (by
    subst hr
    by_cases e : a = b
    · subst e; simp
    · have := mt by_inj.1 e
      simp [e, this]))
theorem ex_eqlb (T T' : TypeId) (x y : Operand) (ho : op.op = .binOp .eql T x y T') (a b : By) (hx : ρ x = bv a) (hy : ρ y = bv b) (r : Bool) (hr : decide (a = b) = r) : (execOp ρ op).run P w = .ok (.value (.bool r)) w :=
  ex_bin .eql T T' x y ho .u8 _ _ hx hy _ (b_eql (by
    subst hr
    by_cases e : a = b
    · subst e; simp
    · have := mt by_inj.1 e
      simp [e, this]))
/-- '!=' of arrays of bytes. -/
def toBs {n : Nat} (l : List By) (h : l.length = n) : Bs n := ⟨l.map fun x => (x.toNat : Int), by rw [List.length_map]; exact h⟩
theorem toBs_cs {n : Nat} (l : List By) (h : l.length = n) : (toBs l h).cs = bcs l := by simp [toBs, Bs.cs, bcs, bv]
theorem toBs_inj {n : Nat} {l m : List By} {h : l.length = n} {h' : m.length = n} : toBs l h = toBs m h' ↔ l = m := by
  constructor
  · intro e
    have := congrArg Subtype.val e
    exact (List.map_inj_right (fun x y e => by_inj.1 e)).1 this
  · rintro rfl; rfl
def ab? (P : Program) (T n : Nat) : Bool := match P.underlying T with | some (.array m e) => Nat.beq m n && (match P.underlying e with | some (.int k) => decide (k = .u8) | _ => false) && P.plainKey e && Nat.beq (P.cellsOf e) 1 && !P.eqGuardType P.depth T | _ => false
theorem run_eqA {T n : Nat} (ht : ab? P T n = true) (l m : List By) (hl : l.length = n) (hm : m.length = n) (w : World) : (Op.equal T (.agg (bcs l).toArray) (.agg (bcs m).toArray)).run P w = .ok (decide (l = m)) w := by
  unfold ab? at ht
  cases hu : P.underlying T with
  | none => simp [hu] at ht
  | some d =>
    cases d with
    | array q e =>
      simp only [hu, Bool.and_eq_true] at ht
      obtain ⟨⟨⟨⟨h1, h2⟩, h3⟩, h4⟩, h5⟩ := ht
      obtain rfl := Nat.eq_of_beq_eq_true h1
      have he : P.underlying e = some (.int .u8) := by
        cases hue : P.underlying e with
        | none => simp [hue] at h2
        | some d2 => cases d2 <;> simp [hue] at h2 ⊢; exact h2
      have hr := run_equalIn_bytes (P := P) 9998 (toBs l hl) (toBs m hm) hu he h3 (Nat.eq_of_beq_eq_true h4) w
      rw [toBs_cs, toBs_cs, show decide (toBs l hl = toBs m hm) = decide (l = m) from decide_eq_decide.2 toBs_inj] at hr
      exact hr
    | _ => simp [hu] at ht
theorem guardA {T n : Nat} (ht : ab? P T n = true) (o : BinOp) (x y : Operand) (c d : Array Value) (w : World) : (eqGuard o T x y (.agg c) (.agg d)).run P w = .ok () w := by
  have h5 : P.eqGuardType P.depth T = false := by
    unfold ab? at ht
    cases hu : P.underlying T with
    | none => simp [hu] at ht
    | some q =>
      cases q with
      | array m e =>
        simp only [hu, Bool.and_eq_true] at ht
        simpa using ht.2
      | _ => simp [hu] at ht
  unfold eqGuard
  cases o <;> simp [Sem.run_bind, run_program, h5]
theorem ex_neqA (T T' : TypeId) (x y : Operand) (ho : op.op = .binOp .neq T x y T') (n : Nat) (ht : ab? P T n = true) (l m : List By) (hl : l.length = n) (hm : m.length = n) (hx : ρ x = .agg (bcs l).toArray) (hy : ρ y = .agg (bcs m).toArray) (r : Bool) (hr : (!decide (l = m)) = r) : (execOp ρ op).run P w = .ok (.value (.bool r)) w := by
  refine ex_neq T T' x y ho _ _ hx hy _ (guardA ht _ _ _ _ _ _) ?_
  subst hr
  unfold binOp
  simp only [Sem.run_bind, run_eqA ht l m hl hm w, Result.andThen_ok]
  rfl
theorem ex_eqlA (T T' : TypeId) (x y : Operand) (ho : op.op = .binOp .eql T x y T') (n : Nat) (ht : ab? P T n = true) (l m : List By) (hl : l.length = n) (hm : m.length = n) (hx : ρ x = .agg (bcs l).toArray) (hy : ρ y = .agg (bcs m).toArray) (r : Bool) (hr : decide (l = m) = r) : (execOp ρ op).run P w = .ok (.value (.bool r)) w := by
  refine ex_eql T T' x y ho _ _ hx hy _ (guardA ht _ _ _ _ _ _) ?_
  subst hr
  unfold binOp
  simp only [Sem.run_bind, run_eqA ht l m hl hm w, Result.andThen_ok]
  rfl
end
section
variable {op : Oper} {ρ : Operand → Value} {w : World}
/-- string(b). -/
theorem ex_strB (x : Operand) (ho : op.op = .convert 23 9 x) (A : Option Addr) (m c : Nat) (bs : List By) (hx : ρ x = .slice A m c) (hB : Rb w A m bs) : (execOp ρ op).run Tryd.prog w = .ok (.value (.string (strB bs))) w := by
  have h9 : Tryd.prog.underlying 9 = some .string := by kernel_rfl
  have h5 : Tryd.prog.underlying 5 = some (.int .u8) := by kernel_rfl
  have hc : (convert 23 9 (.slice A m c)).run Tryd.prog w = .ok (.string (strB bs)) w := by
    cases A with
    | none =>
      have h0 : m = 0 := by
        rcases Nat.eq_zero_or_pos m with h | h
        · exact h
        · obtain ⟨ad, e, _⟩ := hB.ex h; cases e
      have : bs = [] := List.eq_nil_of_length_eq_zero (by rw [hB.1]; exact h0)
      subst this
      rw [run_convert_bytes_nil w 23 5 Tryd.underlying23 h5 m c 9 h9]
      rfl
    | some ad =>
      have hA := hB.at
      have hl := run_loadCells_list (P := Tryd.prog) w ad ((bs.map fun b => (b.toNat : Int)).map (Value.int .u8)) (fun j v hj => hA j v (by rw [List.map_map] at hj; exact hj))
      rw [List.length_map, List.length_map, hB.1] at hl
      rw [run_convert_bytes_string w 23 9 5 (some ad) m c Tryd.underlying23 h5 h9, run_bytesToString w ad m c _ hl, foldl_push_bytes]
      have e : ∀ b : By, UInt8.ofNat ((b.toNat : Int)).toNat = UInt8.ofBitVec b := fun b => by
        have : UInt8.ofNat b.toNat = UInt8.ofBitVec b := by
          apply UInt8.toBitVec_inj.1
          simp
        simpa using this
      have e0 : ByteArray.empty.data = #[] := rfl
      simp only [strB, e0, Array.empty_append, List.map_map]
      refine congrArg (fun l : List UInt8 => Result.ok (Value.string ⟨l.toArray⟩) w) (List.map_congr_left fun b _ => e b)
  unfold execOp
  simp only [ho, hx, Sem.run_bind, hc, Result.andThen_ok, Sem.run_pure]
theorem toList_strB (x : List By) : (strB x).toList = x.map UInt8.ofBitVec := ByteArray.toList_mk _
theorem strB_beq (x y : List By) : ((strB x).toList == (strB y).toList) = decide (x = y) := by
  rw [toList_strB, toList_strB]
  by_cases e : x = y
  · subst e; simp
  · have h : x.map UInt8.ofBitVec ≠ y.map UInt8.ofBitVec := fun h => e ((List.map_inj_right (fun a b e => by injection e)).1 h)
    rw [decide_eq_false e]
    exact beq_eq_false_iff_ne.2 h
theorem ex_eqls (T' : TypeId) (x y : Operand) (ho : op.op = .binOp .eql 9 x y T') (l m : List By) (hx : ρ x = .string (strB l)) (hy : ρ y = .string (strB m)) (r : Bool) (hr : decide (l = m) = r) : (execOp ρ op).run Tryd.prog w = .ok (.value (.bool r)) w := by
  refine ex_eql 9 T' x y ho _ _ hx hy _ (by unfold eqGuard; rfl) ?_
  subst hr
  rw [← strB_beq]
  rfl
theorem ex_neqs (T' : TypeId) (x y : Operand) (ho : op.op = .binOp .neq 9 x y T') (l m : List By) (hx : ρ x = .string (strB l)) (hy : ρ y = .string (strB m)) (r : Bool) (hr : (!decide (l = m)) = r) : (execOp ρ op).run Tryd.prog w = .ok (.value (.bool r)) w := by
  refine ex_neq 9 T' x y ho _ _ hx hy _ (by unfold eqGuard; rfl) ?_
  subst hr
  rw [← strB_beq]
  rfl
/-- len of a string. -/
theorem ex_lens (x : Operand) (t : TypeId) (ho : op.op = .call { callee := .builtin .len, args := #[x], argTypes := #[t] }) (ht : Tryd.prog.underlying t = some .string) (l : List By) (hx : ρ x = .string (strB l)) : (execOp ρ op).run Tryd.prog w = .ok (.value (.int .i64 (l.length : Int))) w := by
  unfold execOp
  simp only [ho, resolve, List.map_toArray, List.map_cons, List.map_nil, hx, Sem.run_bind, Sem.run_pure, Result.andThen_ok, invoke, builtin, Builtin.len_]
  simp [run_underlying ht, goInt, strB_size]
end
section
variable {a : Act} {w w0 : World} {n : Nat} {L : List (Nat × Value)} {H : List Blk} {lr : List Rw} {op : Oper} {K : Act → World → Prop} {Q : Exit → Act → World → Prop}
/-- []byte(s). -/
theorem ow_bytes (F : Fr n a L) {d : Nat} (hd : op.dst = some d) (hlt : Nat.blt d n = true) (x : Operand) (ho : op.op = .convert 9 23 x) (bs : List By) (hx : a.eval x = .string (strB bs)) (hm : bs.length ≤ maxLen)
    (h : ∀ a' g c w', Fr n a' ((d, .slice (some ⟨g, 0, none⟩) bs.length c) :: L) → Rb w' (some ⟨g, 0, none⟩) bs.length bs → bs.length ≤ c → Below w.heap.size w w' → w.heap.size ≤ g → K a' w') : op.wp Tryd.prog a w K Q := by
  have h9 : Tryd.prog.underlying 9 = some .string := by kernel_rfl
  have h5 : Tryd.prog.underlying 5 = some (.int .u8) := by kernel_rfl
  have hr := Lib.run_convert_string_bytes (P := Tryd.prog) w 9 23 5 (strB bs) h9 Tryd.underlying23 h5
  rw [strB_size] at hr
  have hb : Below w.heap.size w (Lib.bytesWorld w 5 (strB bs)) := ⟨rfl, rfl, rfl, by rw [Lib.bytesWorld_size]; omega, fun k hk => Lib.bytesWorld_at_old w 5 _ k hk⟩
  unfold Oper.wp execOp
  simp only [ho, hx, Sem.run_bind, hr, Result.andThen_ok, Sem.run_pure]
  suffices hAt : At (Lib.bytesWorld w 5 (strB bs)) ⟨w.heap.size, 0, none⟩ (bcs bs) from (by rw [hd]; exact h _ w.heap.size _ _ (F.put _ hlt) (Rb.mk' hAt rfl hm) (grownCap_ge w bs.length 0 5) hb (Nat.le_refl _) : K (a.put op.dst _) _)
  intro j v hv
  have hj : j < bs.length := by have := (List.getElem?_eq_some_iff.1 hv).1; rwa [bcs_len] at this
  have h1 := Lib.bytesWorld_cell w 5 (strB bs) j (by rw [strB_size]; exact hj)
  rw [addr_add, Nat.zero_add, h1]
  rw [bcs_get hj] at hv
  rw [← hv]
  simp [strB, bv, List.getD_eq_getElem?_getD, List.getElem?_eq_getElem hj]
end
end Go.Proofs.YtkppipeadibfkaaDoor
