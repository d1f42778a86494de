/- Package digest: eight, Sum of a hash, of, Sum. Conditions: the table is laid; what is handed in is read. -/
import Derived.Test.YtkppipeadibfkaaDoorE
namespace Go.Proofs.YtkppipeadibfkaaDoor
open Go.RowKit Go.Proofs.YtkppipeadibfkaaDoorW.PrintWords KB WG
set_option linter.unusedVariables false
set_option linter.unusedSimpArgs false
/-- A list that is being filled. -/
def fill (l : List By) (n j : Nat) : List By := l.take j ++ List.replicate (n - j) 0
theorem fill_zero (l : List By) (n : Nat) : fill l n 0 = List.replicate n 0 := by simp [fill]
theorem fill_all {l : List By} {n : Nat} (h : l.length = n) : fill l n n = l := by subst h; simp [fill]
theorem fill_len {l : List By} {n j : Nat} (h : l.length = n) (hj : j ≤ n) : (fill l n j).length = n := by simp [fill]; omega
theorem fill_set {l : List By} {n j : Nat} (h : l.length = n) (hj : j < n) : (fill l n j).set j (l.getD j 0) = fill l n (j + 1) := by
  have h1 : (l.take j).length = j := by rw [List.length_take]; omega
  have hx : l.getD j 0 = l[j] := by rw [List.getD_eq_getElem?_getD, List.getElem?_eq_getElem (by omega)]; rfl
  unfold fill
  rw [List.set_append_right _ _ (by omega), h1, Nat.sub_self, show n - j = (n - (j + 1)) + 1 by omega, List.replicate_succ, List.set_cons_zero, hx, List.take_succ_eq_append_getElem (by omega), List.append_assoc]
  rfl
theorem be8_get (x : Nm) {i : Nat} (hi : i < 8) : (be8 x).getD i 0 = (x >>> (56 - 8 * i)).setWidth 8 := by
  match i, hi with
  | 0, _ => rfl
  | 1, _ => rfl
  | 2, _ => rfl
  | 3, _ => rfl
  | 4, _ => rfl
  | 5, _ => rfl
  | 6, _ => rfl
  | 7, _ => rfl
theorem be8_set (x : Nm) {i : Nat} (hi : i < 8) : (fill (be8 x) 8 i).set i ((x >>> (56 - 8 * i)).setWidth 8) = fill (be8 x) 8 (i + 1) := by rw [← be8_get x hi]; exact fill_set rfl hi
theorem out_set {h : List Wd} (hh : h.length = 8) {i : Nat} (hi : i < 8) : ((((fill (outB h) 32 (4 * i)).set (4 * i) ((h.getD i 0 >>> 24).setWidth 8)).set (4 * i + 1) ((h.getD i 0 >>> 16).setWidth 8)).set (4 * i + 2) ((h.getD i 0 >>> 8).setWidth 8)).set (4 * i + 3) ((h.getD i 0).setWidth 8) = fill (outB h) 32 (4 * (i + 1)) := by
  have hl : (outB h).length = 32 := by rw [outB_len, hh]
  have e0 := outB_get h (4 * i) (by omega)
  have e1 := outB_get h (4 * i + 1) (by omega)
  have e2 := outB_get h (4 * i + 2) (by omega)
  have e3 := outB_get h (4 * i + 3) (by omega)
  rw [show 4 * i / 4 = i by omega, show 24 - 8 * (4 * i % 4) = 24 by omega] at e0
  rw [show (4 * i + 1) / 4 = i by omega, show 24 - 8 * ((4 * i + 1) % 4) = 16 by omega] at e1
  rw [show (4 * i + 2) / 4 = i by omega, show 24 - 8 * ((4 * i + 2) % 4) = 8 by omega] at e2
  rw [show (4 * i + 3) / 4 = i by omega, show 24 - 8 * ((4 * i + 3) % 4) = 0 by omega, BitVec.ushiftRight_zero] at e3
  rw [← e0, ← e1, ← e2, ← e3, fill_set hl (by omega), fill_set hl (by omega), fill_set hl (by omega), fill_set hl (by omega)]
  rfl
section
variable {P : Program} {op : Oper} {ρ : Operand → Value} {w : World}
theorem ex_shrn (T T' : TypeId) (x y : Operand) (ho : op.op = .binOp .shr T x y T') (a : Nm) (k : IntKind) (n : Nat) (hx : ρ x = nv a) (hy : ρ y = .int k (n : Int)) (hn : n ≤ 64) : (execOp ρ op).run P w = .ok (.value (nv (a >>> n))) w := by
  have hb : (binOp .shr T (nv a) (.int k (n : Int))).run P w = .ok (nv (a >>> n)) w := by
    show (Op.shift .shr .u64 (a.toNat : Int) k (n : Int)).run P w = _
    unfold Op.shift
    rw [if_neg (by omega)]
    simp only [Sem.run_pure]
    refine congrArg (fun z => Result.ok (Value.int .u64 z) w) ?_
    rw [show min ((n : Int)).toNat IntKind.u64.bits = n from Nat.min_eq_left hn]
    rw [show ((2 : Int) ^ n) = ((2 ^ n : Nat) : Int) by simp, Int.fdiv_eq_ediv_of_nonneg _ (Int.natCast_nonneg _)]
    simp [BitVec.toNat_ushiftRight, Nat.shiftRight_eq_div_pow]
  have hg : (eqGuard .shr T x y (nv a) (.int k (n : Int))).run P w = .ok () w := by simp [eqGuard]
  unfold execOp
  simp only [ho, hx, hy, Sem.run_bind, hg, hb, Result.andThen_ok, Sem.run_pure]
theorem w8_lown (x : Nm) : IntKind.u8.wrap (x.toNat : Int) = (((x.setWidth 8 : By)).toNat : Int) := by rw [w8]; congr 1
theorem ex_lown (s t : TypeId) (x : Operand) (ho : op.op = .convert s t x) (h : cv? P s t .u8 = true) (a : Nm) (hx : ρ x = nv a) : (execOp ρ op).run P w = .ok (.value (bv (a.setWidth 8))) w :=
  ex_conv s t x ho .u64 .u8 h _ hx _ (w8_lown a)
theorem w64_mul (m : Nat) (x : Nm) : IntKind.u64.wrap ((m : Int) * (x.toNat : Int)) = ((BitVec.ofNat 64 m * x).toNat : Int) := by
  rw [← Int.natCast_mul, w64]; simp [BitVec.toNat_mul]
end
section
variable {a : Act} {w w0 : World} {n : Nat} {L : List (Nat × Value)} {H : List Blk} {op : Oper} {K : Act → World → Prop} {Q : Exit → Act → World → Prop}
theorem zc_bytes (m : Nat) : madeCells #[.int .u8 0] (m * 1) = (bcs (List.replicate m 0)).toArray := by
  apply Array.ext'
  have e : (fun x : Nat => ([Value.int IntKind.u8 0][x % 1]?).getD default) = fun _ => Value.int IntKind.u8 0 := by funext x; rw [Nat.mod_one]; rfl
  simp [madeCells, bcs, bv, e, List.map_const']
/-- make([]byte, m). -/
theorem ow_makeB (F : Fr n a L) (M : Mm w0 w H) {d : Nat} (hd : op.dst = some d) (hlt : Nat.blt d n = true) (x y : Operand) (ho : op.op = .makeSlice 23 x y) (m : Nat) (hx : a.eval x = .int .i64 (m : Int)) (hy : a.eval y = .int .i64 (m : Int)) (hm : m ≤ 140737488355328)
    (h : ∀ a' g w', Fr n a' ((d, .slice (some ⟨g, 0, none⟩) m m) :: L) → Mm w0 w' (⟨g, (bcs (List.replicate m 0)).toArray, 5⟩ :: H) → Below w.heap.size w w' → w.heap.size ≤ g → K a' w') : op.wp Tryd.prog a w K Q := by
  obtain ⟨i0, hi, hzz⟩ := Option.map_eq_some_iff.1 info5z
  simp only [Prod.mk.injEq] at hzz
  obtain ⟨hz0, hz1, hz2⟩ := hzz
  have hr := run_make (P := Tryd.prog) w 23 5 i0 (.int .u8 0) Tryd.underlying23 hi hz0 .i64 .i64 (m : Int) (m : Int) (by omega) (by omega) (by rw [hz2]; omega) (by omega)
  simp only [Int.toNat_natCast] at hr
  rw [hz1, show (Value.int .u8 0).cells = #[.int .u8 0] from rfl, zc_bytes] at hr
  have hb : Below w.heap.size w (w.alloc (.cells (bcs (List.replicate m 0)).toArray 5)) := (Below.refl _ _).alloc (Nat.le_refl _) _
  unfold Oper.wp execOp
  simp only [ho, hx, hy, Sem.run_bind, hr, Result.andThen_ok, Sem.run_pure]
  exact (by rw [hd]; exact h _ w.heap.size _ (F.put _ hlt) (M.new ⟨_, _, _⟩ hb (Nat.le_refl _) (blk_of_alloc _ _ _)) hb (Nat.le_refl _) : K (a.put op.dst _) _)
end
/-- A hash of one's own takes bytes: the other blocks stay. -/
theorem WG.Mm.chg {w0 w w' : World} {H : List Blk} (M : Mm w0 w H) {i g : Nat} {cs : Array Value} {sl sl' : Value} {bs : List By} (hi : H[i]? = some ⟨g, cs, 82⟩) (hO : OwB w w0.heap.size sl bs) (hT : H.all (fun b => b.t != 5) = true) (hC : Cg w w' g sl.ownBlock sl') (cs' : Array Value) (hn : w'.heap[g]? = some (.cells cs' 82 (0, 0))) : Mm w0 w' (H.set i ⟨g, cs', 82⟩) := by
  have hrow : ∀ k, sl.ownBlock = some k → w0.heap.size ≤ k ∧ ∀ (j : Nat) (b : Blk), H[j]? = some b → b.g ≠ k := fun k hk => by
    obtain ⟨h2, _, cells, hc⟩ := hO.bound hk
    refine ⟨h2, fun j b hb e => ?_⟩
    have h1 := M.blk j b hb
    rw [e, hc] at h1
    injection h1 with h1
    injection h1 with _ h1
    have := List.all_eq_true.1 hT b (List.mem_of_getElem? hb)
    rw [← h1] at this
    simp at this
  have hlo := M.lo i _ hi
  refine ⟨⟨hC.1.os.trans M.bel.os, hC.1.tape.trans M.bel.tape, hC.1.output.trans M.bel.output, Nat.le_trans M.bel.size hC.1.size, fun k hk => ?_⟩, fun j b hb => ?_, fun j b hb => ?_, fun j k b c hj hk e => ?_⟩
  · rw [hC.1.block k (Nat.lt_of_lt_of_le hk M.bel.size) (by simp only at hlo; omega) (fun e => by have := (hrow k e.symm).1; omega)]
    exact M.bel.block k hk
  · rw [List.getElem?_set] at hb
    split at hb
    · split at hb
      · obtain rfl := Option.some.inj hb; exact hn
      · cases hb
    · rename_i hne
      rw [hC.1.block _ (M.lt hb) (fun e => hne (M.nd i j _ b hi hb e.symm)) (fun e => (hrow _ e.symm).2 j b hb rfl)]
      exact M.blk j b hb
  · rw [List.getElem?_set] at hb
    split at hb
    · split at hb
      · obtain rfl := Option.some.inj hb; exact hlo
      · cases hb
    · exact M.lo j b hb
  · have key : ∀ (m : Nat) (x : Blk), (H.set i ⟨g, cs', 82⟩)[m]? = some x → ∃ y, H[m]? = some y ∧ y.g = x.g := fun m x h => by
      rw [List.getElem?_set] at h
      split at h
      · rename_i e; subst e
        split at h
        · obtain rfl := Option.some.inj h; exact ⟨_, hi, rfl⟩
        · cases h
      · exact ⟨x, h, rfl⟩
    obtain ⟨y, hy, ey⟩ := key j b hj
    obtain ⟨z, hz, ez⟩ := key k c hk
    exact M.nd j k y z hy hz (by rw [ey, ez, e])
/-- take, told by all bytes that it has taken. -/
theorem take_all (all : List By) (A : Option Addr) (k : Nat) (x : Nm) (b : List By) (B : Option Addr) (n c : Nat) (g base : Nat) (w : World) (hK : At w ⟨0, 0, none⟩ (wcs kTab)) (h0 : 0 < base) (hbs : base ≤ w.heap.size) (hbg : base ≤ g)
    (hblk : w.heap[g]? = some (.cells (hcs (feed hIni all).1 (.slice A (feed hIni all).2.length k) (x.toNat : Int)).toArray 82 (0, 0))) (hO : OwB w base (.slice A (feed hIni all).2.length k) (feed hIni all).2) (hB : RbA w B n c b g (.slice A (feed hIni all).2.length k)) :
    Calls Tryd.prog 45 #[.pointer (some ⟨g, 0, none⟩), .slice B n c] w fun e w' => e = .returned (.tuple #[]) ∧ ∃ A' k', w'.heap[g]? = some (.cells (hcs (feed hIni (all ++ b)).1 (.slice A' (feed hIni (all ++ b)).2.length k') ((x + BitVec.ofNat 64 n).toNat : Int)).toArray 82 (0, 0)) ∧ OwB w' base (.slice A' (feed hIni (all ++ b)).2.length k') (feed hIni (all ++ b)).2 ∧ Cg w w' g (Value.slice A (feed hIni all).2.length k).ownBlock (.slice A' (feed hIni (all ++ b)).2.length k') := by
  have := take_row (feed hIni all).1 (feed_len rfl all) A (feed hIni all).2.length k (feed hIni all).2 (feed_small _ _) x b B n c g base _ rfl w hK h0 hbs hbg hblk hO hB
  rw [← feed_app] at this
  exact this
/-- Rows of bytes in a row. -/
def RowsB (w : World) (L : Option Addr) (n : Nat) (ls : List (List By)) : Prop := ls.length = n ∧ (0 < n → ∃ adl, L = some adl ∧ ∀ (i : Nat) (b : List By), ls[i]? = some b → ∃ B m c, w.cell? (adl.add i) = some (.slice B m c) ∧ Rb w B m b ∧ m ≤ c)
theorem RowsB.below {w w1 : World} {L : Option Addr} {n : Nat} {ls : List (List By)} (h : RowsB w L n ls) (hb : Below w.heap.size w w1) : RowsB w1 L n ls :=
  ⟨h.1, fun hn => by
    obtain ⟨adl, e, hr⟩ := h.2 hn
    exact ⟨adl, e, fun i b hi => by
      obtain ⟨B, m, c, h1, h2, h3⟩ := hr i b hi
      exact ⟨B, m, c, pw_cell_below hb h1, h2.below hb, h3⟩⟩⟩
def dpad (b : List By) (j : Nat) : List By := b ++ [0x80] ++ List.replicate j 0
theorem dpad_next (b : List By) (j : Nat) : dpad b j ++ [0] = dpad b (j + 1) := by unfold dpad; rw [List.append_assoc, ← List.replicate_succ']
theorem dpad_len (b : List By) (j : Nat) : (dpad b j).length = b.length + 1 + j := by simp [dpad]; omega
theorem dpad_zero (b : List By) : b ++ [0x80] = dpad b 0 := by simp [dpad]
theorem full_dpad (b : List By) : dpad b (zeros b.length) ++ be8 (BitVec.ofNat 64 8 * BitVec.ofNat 64 b.length) = full b := by
  unfold full pad dpad
  rw [← BitVec.ofNat_mul]
theorem build82_8 (a b c d e f g h : Wd) (A : Option Addr) (n k : Nat) (w : World) : (Instr.build 82 #[(0, .agg #[wv a, wv b, wv c, wv d, wv e, wv f, wv g, wv h]), (1, .slice A n k)]).run Tryd.prog w = .ok (.agg #[wv a, wv b, wv c, wv d, wv e, wv f, wv g, wv h, .slice A n k, .int .u64 0]) w := by kernel_rfl
theorem build82 (h : List Wd) (hh : h.length = 8) (A : Option Addr) (n c : Nat) (w : World) : (Instr.build 82 #[(0, .agg (wcs h).toArray), (1, .slice A n c)]).run Tryd.prog w = .ok (.agg (hcs h (.slice A n c) ((0 : Nm).toNat : Int)).toArray) w := by
  match h, hh with
  | [x0, x1, x2, x3, x4, x5, x6, x7], _ => exact build82_8 x0 x1 x2 x3 x4 x5 x6 x7 A n c w
theorem z24 (w : World) : (zeroValue 24).run Tryd.prog w = .ok (.agg (bcs (List.replicate 32 0)).toArray) w := by kernel_rfl
theorem bs0 (w : World) : (Instr.buildSlice 23 0 #[]).run Tryd.prog w = .ok (.slice (some ⟨w.heap.size, 0, none⟩) 0 0) (w.alloc (.cells (bcs []).toArray 5)) := by kernel_rfl
theorem bs1_80 (w : World) : (Instr.buildSlice 23 1 #[(0, .int .u8 128)]).run Tryd.prog w = .ok (.slice (some ⟨w.heap.size, 0, none⟩) 1 1) (w.alloc (.cells (bcs [0x80]).toArray 5)) := by kernel_rfl
theorem bs1_0 (w : World) : (Instr.buildSlice 23 1 #[(0, .int .u8 0)]).run Tryd.prog w = .ok (.slice (some ⟨w.heap.size, 0, none⟩) 1 1) (w.alloc (.cells (bcs [0]).toArray 5)) := by kernel_rfl
theorem sz24 {l : List By} (h : l.length = 32) : (Tryd.prog.info? 24).map (·.size) = some ((bcs l).toArray).size := by rw [List.size_toArray, bcs_len, h]; kernel_rfl
theorem sz_eqb {l m : List By} (n : Nat) (h : l.length = n) (h2 : m.length = n) : ((bcs l).toArray).size = ((bcs m).toArray).size := by rw [List.size_toArray, List.size_toArray, bcs_len, bcs_len, h, h2]
theorem kt_pos {w : World} (hK : At w ⟨0, 0, none⟩ (wcs kTab)) : 0 < w.heap.size := by
  have h := hK 0 (wv 0x428a2f98) rfl
  have := World.block_lt_of_cell? w _ h
  rwa [show ((⟨0, 0, none⟩ : Addr).add 0).block = 0 by unfold Addr.add; split <;> rfl] at this
section
variable {a : Act} {w w0 : World} {n : Nat} {L : List (Nat × Value)} {H : List Blk} {op : Oper} {K : Act → World → Prop} {Q : Exit → Act → World → Prop}
/-- append to a row of one's own; what it comes to is told in another form. -/
theorem ow_appZ (F : Fr n a L) (M : Mm w0 w H) (hT : H.all (fun b => b.t != 5) = true) {d : Nat} (hd : op.dst = some d) (hlt : Nat.blt d n = true) (hgd : op.guard = none) (s x : Operand) (ho : op.op = .call { callee := .builtin .append, args := #[s, x], argTypes := #[23, 23] })
    (B : Option Addr) (q b : Nat) (xs ys zs : List By) (hz : xs ++ ys = zs) (A : Option Addr) (m c : Nat) (hs : a.eval s = .slice B q b) (hx : a.eval x = .slice A m c) (HO : OwB w w0.heap.size (.slice B q b) xs) (HR : Rb w A m ys) (hl : xs.length + m ≤ 140737488355328)
    (h : ∀ a' A1 c1 w', Fr n a' ((d, .slice A1 zs.length c1) :: L) → Mm w0 w' H → OwB w' w0.heap.size (.slice A1 zs.length c1) zs → w.grownBy w' (Value.slice B q b).ownBlock → ((Value.slice A1 zs.length c1).ownBlock = (Value.slice B q b).ownBlock ∨ ∃ k, (Value.slice A1 zs.length c1).ownBlock = some k ∧ w.heap.size ≤ k) → K a' w') : op.wp Tryd.prog a w K Q := by
  subst hz
  exact ow_appB F M hT hd hlt hgd s x ho B q b xs ys A m c hs hx HO HR hl h
end
theorem z82 (w : World) : (zeroValue 82).run Tryd.prog w = .ok (.agg (hcs zW8 (.slice none 0 0) 0).toArray) w := by kernel_rfl
theorem hcs_one (h : List Wd) (A : Option Addr) (n c : Nat) (m : Int) : (hcs h (.slice A n c) m).toArray.all (·.oneCell') = true := all_oneCell_toArray (fun u hu => by
  rcases List.mem_append.1 hu with hu | hu
  · exact wcs_one _ u hu
  · simp only [List.mem_cons, List.not_mem_nil, or_false] at hu
    rcases hu with rfl | rfl <;> rfl)
theorem sz82 {h : List Wd} {sl : Value} {m : Int} (hh : h.length = 8) : (Tryd.prog.info? 82).map (·.size) = some ((hcs h sl m).toArray).size := by rw [List.size_toArray, hcs_len, hh]; kernel_rfl
theorem sz82_eq {h h' : List Wd} {sl sl' : Value} {m m' : Int} (hh : h.length = 8) (hh' : h'.length = 8) : ((hcs h sl m).toArray).size = ((hcs h' sl' m').toArray).size := by rw [List.size_toArray, List.size_toArray, hcs_len, hcs_len, hh, hh']
theorem new_all (w : World) : Calls Tryd.prog 31 #[] w fun e w' => ∃ g, e = .returned (.pointer (some ⟨g, 0, none⟩)) ∧ w.heap.size ≤ g ∧ w'.heap[g]? = some (.cells (hcs (feed hIni []).1 (.slice none (feed hIni []).2.length 0) ((BitVec.ofNat 64 0).toNat : Int)).toArray 82 (0, 0)) ∧ Below w.heap.size w w' := by
  rw [feed_nil]
  exact new_any w
theorem owB_new (w : World) (base : Nat) : OwB w base (.slice none (feed hIni []).2.length 0) (feed hIni []).2 := by rw [feed_nil]; exact owB_nil w base
/-- take_all, told in other words. -/
theorem take_to (all all' : List By) (A : Option Addr) (k : Nat) (x x' : Nm) (b : List By) (B : Option Addr) (n c : Nat) (g base : Nat) (w : World) (hK : At w ⟨0, 0, none⟩ (wcs kTab)) (h0 : 0 < base) (hbs : base ≤ w.heap.size) (hbg : base ≤ g)
    (hblk : w.heap[g]? = some (.cells (hcs (feed hIni all).1 (.slice A (feed hIni all).2.length k) (x.toNat : Int)).toArray 82 (0, 0))) (hO : OwB w base (.slice A (feed hIni all).2.length k) (feed hIni all).2) (hB : RbA w B n c b g (.slice A (feed hIni all).2.length k)) (ha : all ++ b = all') (hx : x + BitVec.ofNat 64 n = x') :
    Calls Tryd.prog 45 #[.pointer (some ⟨g, 0, none⟩), .slice B n c] w fun e w' => e = .returned (.tuple #[]) ∧ ∃ A' k', w'.heap[g]? = some (.cells (hcs (feed hIni all').1 (.slice A' (feed hIni all').2.length k') (x'.toNat : Int)).toArray 82 (0, 0)) ∧ OwB w' base (.slice A' (feed hIni all').2.length k') (feed hIni all').2 ∧ Cg w w' g (Value.slice A (feed hIni all).2.length k).ownBlock (.slice A' (feed hIni all').2.length k') := by
  subst ha hx
  exact take_all all A k x b B n c g base w hK h0 hbs hbg hblk hO hB
theorem flat_take {ls : List (List By)} {i : Nat} (hi : i < ls.length) : (ls.take i).flatten ++ ls[i] = (ls.take (i + 1)).flatten := by rw [List.take_succ_eq_append_getElem hi, List.flatten_append]; simp
theorem flat_num {ls : List (List By)} {i m : Nat} (hi : i < ls.length) (hm : ls[i].length = m) : BitVec.ofNat 64 (ls.take i).flatten.length + BitVec.ofNat 64 m = BitVec.ofNat 64 (ls.take (i + 1)).flatten.length := by
  rw [← flat_take hi, List.length_append, BitVec.ofNat_add, hm]
theorem bs22_1 (B : Option Addr) (n c : Nat) (w : World) : (Instr.buildSlice 22 1 #[(0, .slice B n c)]).run Tryd.prog w = .ok (.slice (some ⟨w.heap.size, 0, none⟩) 1 1) (w.alloc (.cells #[.slice B n c] 23)) := by kernel_rfl
theorem rows_one {w : World} {g : Nat} {B : Option Addr} {n c : Nat} {b : List By} (h : w.cell? ⟨g, 0, none⟩ = some (.slice B n c)) (hB : Rb w B n b) (hc : n ≤ c) : RowsB w (some ⟨g, 0, none⟩) 1 [b] := ⟨rfl, fun _ => ⟨_, rfl, fun i x hx => by
  match i, hx with
  | 0, hx => obtain rfl : b = x := by simpa using hx
             exact ⟨B, n, c, by rw [addr_add]; exact h, hB, hc⟩⟩⟩
theorem dv_sl_23_1 : sl? Tryd.prog 23 1 = true := by kernel_rfl
theorem dv_cv_62_5_u8 : cv? Tryd.prog 62 5 .u8 = true := by kernel_rfl
theorem dv_info_5_map_size_some_1 : (Tryd.prog.info? 5).map (·.size) = some 1 := by kernel_rfl
set_option maxHeartbeats 4000000 in
set_option maxRecDepth 100000 in
theorem eight_any (x : Nm) (w : World) :
    Calls Tryd.prog 44 #[.int .u64 (x.toNat : Int)] w fun e w' => ∃ g, e = .returned (.slice (some ⟨g, 0, none⟩) 8 8) ∧ w.heap.size ≤ g ∧ Rb w' (some ⟨g, 0, none⟩) 8 (be8 x) ∧ Below w.heap.size w w' := by
 refine calls_start Tryd.func44 rfl rfl rfl (fun a F => ?_)
 have M : Mm w w [] := Mm.nil w
 refine wp_seq ?_
 refine wp_region_lit ?_
 refine list_val F (wn rfl) rfl rfl (.slice none 0 0) (ex_assign _ rfl _ rfl) ?_; clear F a; intro a F
 refine wpList_nil ?_
 replace F : Fr 22 a [(0, .int .u64 (x.toNat : Int)), (2, .slice none 0 0)] := F.keep ⟨rfl, rfl, trivial⟩
 refine then_n ?_
 refine wp_seq ?_
 refine wp_region_lit ?_
 refine list_do (wn rfl) (fun K hK => ?_)
 refine ow_makeB F M rfl rfl _ _ rfl 8 rfl rfl (by omega) ?_
 clear F M a; intro a g5 v F M hb hg
 refine hK _ _ ?_
 clear hK K
 clear hb hg; try clear w
 refine list_val F (wn rfl) rfl rfl (.slice (some ⟨g5, 0, none⟩) 8 8) (ex_assign _ rfl _ (F.e rfl)) ?_; clear F a; intro a F
 refine wpList_nil ?_
 replace F : Fr 22 a [(0, .int .u64 (x.toNat : Int)), (2, .slice none 0 0), (3, .slice (some ⟨g5, 0, none⟩) 8 8)] := F.keep ⟨rfl, rfl, rfl, trivial⟩
 refine then_n ?_
 refine wp_seq ?_
 refine wp_seq ?_
 refine wp_region_lit ?_
 refine list_val F (wn rfl) rfl rfl (.slice (some ⟨g5, 0, none⟩) 8 8) (ex_move _ rfl _ (F.e rfl)) ?_; clear F a; intro a F
 refine list_val F (wn rfl) rfl rfl (.int .i64 8) (ex_len _ _ rfl 1 dv_sl_23_1 _ _ _ (F.e rfl)) ?_; clear F a; intro a F
 refine list_val F (wn rfl) rfl rfl (.int .i64 0) (ex_move _ rfl _ rfl) ?_; clear F a; intro a F
 refine wpList_nil ?_
 replace F : Fr 22 a [(0, .int .u64 (x.toNat : Int)), (2, .slice none 0 0), (3, .slice (some ⟨g5, 0, none⟩) 8 8), (7, .int .i64 8), (8, .int .i64 0)] := F.keep ⟨rfl, rfl, rfl, rfl, rfl, trivial⟩
 refine then_n ?_
 refine wp_block ?_
 refine wp_loopN (fun mq ar wr => ∃ (i : Nat), ∃ (ol : List By), Fr 22 ar [(0, .int .u64 (x.toNat : Int)), (2, .slice none 0 0), (3, .slice (some ⟨g5, 0, none⟩) 8 8), (7, .int .i64 8), (8, .int .i64 ((i : Nat) : Int))] ∧ Mm w wr [⟨g5, (bcs ol).toArray, 5⟩] ∧ i ≤ 8 ∧ ol = fill (be8 x) 8 i ∧ mq + i = 8) 8 ?_ ?_
 ·
  exact ⟨0, (List.replicate 8 0), F.keep ⟨rfl, rfl, rfl, rfl, rfl, trivial⟩, M, (Nat.zero_le _), (fill_zero _ _).symm, (by omega)⟩
 clear F M a
 rintro mq a u ⟨i, ol, F, M, hi, hol, hq⟩; try clear v
 have hll : ol.length = 8 := by rw [hol]; exact fill_len rfl hi
 by_cases hin : i < 8
 ·
  refine wp_seq ?_
  refine wp_region_lit ?_
  refine list_val F (wn rfl) rfl rfl (.bool true) (ex_bin .lss _ _ _ _ rfl .i64 _ _ (F.e rfl) (F.e rfl) _ (b_lss (decide_eq_true (by omega)))) ?_; clear F a; intro a F
  refine wpList_nil ?_
  replace F : Fr 22 a [(0, .int .u64 (x.toNat : Int)), (2, .slice none 0 0), (3, .slice (some ⟨g5, 0, none⟩) 8 8), (7, .int .i64 8), (8, .int .i64 ((i : Nat) : Int)), (9, .bool true)] := F.keep ⟨rfl, rfl, rfl, rfl, rfl, rfl, trivial⟩
  refine then_n ?_
  refine wp_seq ?_
  refine wp_cond_true (F.e rfl) ?_
  refine wp_skip ?_
  refine then_n ?_
  refine wp_seq ?_
  refine wp_block ?_
  refine wp_seq ?_
  refine wp_region_lit ?_
  refine list_val F (wn rfl) rfl rfl (.int .i64 ((i : Nat) : Int)) (ex_move _ rfl _ (F.e rfl)) ?_; clear F a; intro a F
  refine list_val F (wn rfl) rfl rfl (.int .i64 ((i : Nat) : Int)) (ex_assign _ rfl _ (F.e rfl)) ?_; clear F a; intro a F
  refine wpList_nil ?_
  replace F : Fr 22 a [(0, .int .u64 (x.toNat : Int)), (2, .slice none 0 0), (3, .slice (some ⟨g5, 0, none⟩) 8 8), (4, .int .i64 ((i : Nat) : Int)), (7, .int .i64 8), (8, .int .i64 ((i : Nat) : Int)), (9, .bool true)] := F.keep ⟨rfl, rfl, rfl, rfl, rfl, rfl, rfl, trivial⟩
  refine then_n ?_
  refine wp_region_lit ?_
  refine list_val F (wn rfl) rfl rfl (.slice (some ⟨g5, 0, none⟩) 8 8) (ex_move _ rfl _ (F.e rfl)) ?_; clear F a; intro a F
  refine list_val F (wn rfl) rfl rfl (.int .i64 ((i : Nat) : Int)) (ex_move _ rfl _ (F.e rfl)) ?_; clear F a; intro a F
  refine list_val F (wn rfl) rfl rfl (.int .u64 (x.toNat : Int)) (ex_move _ rfl _ (F.e rfl)) ?_; clear F a; intro a F
  refine list_val F (wn rfl) rfl rfl (.int .i64 ((i : Nat) : Int)) (ex_move _ rfl _ (F.e rfl)) ?_; clear F a; intro a F
  refine list_val F (wn rfl) rfl rfl (.int .i64 ((8 * i : Nat) : Int)) (ex_bin .mul _ _ _ _ rfl .i64 _ _ rfl (F.e rfl) _ (b_mul ((w_i64 (by omega) (by omega)).trans (by omega)))) ?_; clear F a; intro a F
  refine list_val F (wn rfl) rfl rfl (.int .i64 ((56 - 8 * i : Nat) : Int)) (ex_bin .sub _ _ _ _ rfl .i64 _ _ rfl (F.e rfl) _ (b_sub ((w_i64 (by omega) (by omega)).trans (by omega)))) ?_; clear F a; intro a F
  refine list_val F (wn rfl) rfl rfl (.int .u64 ((x >>> (56 - 8 * i)).toNat : Int)) (ex_shrn _ _ _ _ rfl x .i64 (56 - 8 * i) (F.e rfl) (F.e rfl) (by omega)) ?_; clear F a; intro a F
  refine list_val F (wn rfl) rfl rfl (bv (BitVec.setWidth 8 (x >>> (56 - 8 * i)))) (ex_lown _ _ _ rfl dv_cv_62_5_u8 (x >>> (56 - 8 * i)) (F.e rfl)) ?_; clear F a; intro a F
  refine list_val F (wn rfl) rfl rfl (.pointer (some ⟨g5, i, none⟩)) (ex_ix _ _ _ rfl 1 dv_sl_23_1 ⟨g5, 0, none⟩ _ _ (F.e rfl) .i64 _ (F.e rfl) i rfl (by omega) ⟨g5, i, none⟩ ((addr_add _ _ _).trans (by rw [Nat.zero_add, Nat.mul_one]))) ?_; clear F a; intro a F
  refine list_do (wn rfl) (fun K hK => ?_)
  refine ow_store F M rfl 5 _ _ rfl 0 g5 _ _ rfl (i) (F.e rfl) _ (F.e rfl) [bv (BitVec.setWidth 8 (x >>> (56 - 8 * i)))] rfl dv_info_5_map_size_some_1 (by rw [List.size_toArray, bcs_len]; simp only [List.length_set, List.length_cons, List.length_nil, Nat.zero_add]; omega) (by simp [bv, Value.oneCell']) (bcs (ol.set i (BitVec.setWidth 8 (x >>> (56 - 8 * i))))).toArray (congrArg List.toArray (bcs_set _ _ _ (by (try simp only [List.length_set]); omega))) ?_
  clear F a; have Mo := M; clear M; intro a v F M hgr
  refine hK _ _ ?_
  clear hK K
  clear Mo hgr; try clear u
  replace M : Mm w v [⟨g5, (bcs (ol.set i (BitVec.setWidth 8 (x >>> (56 - 8 * i))))).toArray, 5⟩] := M
  refine wpList_nil ?_
  replace F : Fr 22 a [(0, .int .u64 (x.toNat : Int)), (2, .slice none 0 0), (3, .slice (some ⟨g5, 0, none⟩) 8 8), (4, .int .i64 ((i : Nat) : Int)), (7, .int .i64 8), (8, .int .i64 ((i : Nat) : Int)), (9, .bool true)] := F.keep ⟨rfl, rfl, rfl, rfl, rfl, rfl, rfl, trivial⟩
  refine in_n ?_
  refine then_n ?_
  refine wp_region_lit ?_
  refine list_val F (wn rfl) rfl rfl (.int .i64 ((i + 1 : Nat) : Int)) (ex_bin .add _ _ _ _ rfl .i64 _ _ (F.e rfl) rfl _ (b_add ((w_i64 (by omega) (by omega)).trans (by omega)))) ?_; clear F a; intro a F
  refine list_val F (wn rfl) rfl rfl (.int .i64 ((i + 1 : Nat) : Int)) (ex_move _ rfl _ (F.e rfl)) ?_; clear F a; intro a F
  refine wpList_nil ?_
  replace F : Fr 22 a [(0, .int .u64 (x.toNat : Int)), (2, .slice none 0 0), (3, .slice (some ⟨g5, 0, none⟩) 8 8), (4, .int .i64 ((i : Nat) : Int)), (7, .int .i64 8), (8, .int .i64 ((i + 1 : Nat) : Int)), (9, .bool true)] := F.keep ⟨rfl, rfl, rfl, rfl, rfl, rfl, rfl, trivial⟩
  refine then_n ?_
  exact ⟨8 - (i + 1), by omega, (i + 1), (ol.set i (BitVec.setWidth 8 (x >>> (56 - 8 * i)))), F.keep ⟨rfl, rfl, rfl, rfl, rfl, trivial⟩, (by refine M.pick' [0] _ ?_ (by decide); exact ⟨rfl, trivial⟩), (by omega), (by rw [hol]; exact be8_set x hin), (by omega)⟩
 refine wp_seq ?_
 refine wp_region_lit ?_
 refine list_val F (wn rfl) rfl rfl (.bool false) (ex_bin .lss _ _ _ _ rfl .i64 _ _ (F.e rfl) (F.e rfl) _ (b_lss (decide_eq_false (by omega)))) ?_; clear F a; intro a F
 refine wpList_nil ?_
 replace F : Fr 22 a [(0, .int .u64 (x.toNat : Int)), (2, .slice none 0 0), (3, .slice (some ⟨g5, 0, none⟩) 8 8), (7, .int .i64 8), (8, .int .i64 ((i : Nat) : Int)), (9, .bool false)] := F.keep ⟨rfl, rfl, rfl, rfl, rfl, rfl, trivial⟩
 refine then_n ?_
 refine wp_seq ?_
 refine wp_cond_false (F.e rfl) ?_
 refine wp_exit ?_
 refine then_x ?_
 refine then_x ?_
 refine in_hit ?_
 refine then_n ?_
 refine wp_seq ?_
 refine wp_region_lit ?_
 refine list_val F (wn rfl) rfl rfl (.slice (some ⟨g5, 0, none⟩) 8 8) (ex_move _ rfl _ (F.e rfl)) ?_; clear F a; intro a F
 refine list_val F (wn rfl) rfl rfl (.slice (some ⟨g5, 0, none⟩) 8 8) (ex_assign _ rfl _ (F.e rfl)) ?_; clear F a; intro a F
 refine wpList_nil ?_
 replace F : Fr 22 a [(0, .int .u64 (x.toNat : Int)), (2, .slice (some ⟨g5, 0, none⟩) 8 8), (3, .slice (some ⟨g5, 0, none⟩) 8 8), (7, .int .i64 8), (8, .int .i64 ((i : Nat) : Int)), (9, .bool false)] := F.keep ⟨rfl, rfl, rfl, rfl, rfl, rfl, trivial⟩
 refine then_n ?_
 refine wp_ret ?_
 obtain rfl : i = 8 := by omega
 rw [fill_all (n := 8) (be8_len x)] at hol
 subst hol
 exact ret_tmp F rfl rfl ⟨g5, rfl, M.lo 0 _ rfl, Rb.mk' (M.at (i := 0) rfl) rfl (by decide), M.bel⟩
theorem dv_follows_mixedOrders : Tryd.prog.follows .mixedOrders = true := by kernel_rfl
theorem dv_fa_82_0_0 : fa? Tryd.prog 82 0 0 = true := by kernel_rfl
theorem dv_row_74_8 : row? Tryd.prog 74 8 = true := by kernel_rfl
theorem dv_fa_82_1_8 : fa? Tryd.prog 82 1 8 = true := by kernel_rfl
theorem dv_one_23 : one? Tryd.prog 23 = true := by kernel_rfl
theorem dv_ent_45 : ent? Tryd.prog 45 = true := by kernel_rfl
theorem dv_fa_82_2_9 : fa? Tryd.prog 82 2 9 = true := by kernel_rfl
theorem dv_one_62 : one? Tryd.prog 62 = true := by kernel_rfl
theorem dv_ent_44 : ent? Tryd.prog 44 = true := by kernel_rfl
theorem dv_plainKey_73 : Tryd.prog.plainKey 73 = true := by kernel_rfl
theorem dv_info_73_map_size_some_1 : (Tryd.prog.info? 73).map (·.size) = some 1 := by kernel_rfl
theorem dv_cv_73_5_u8 : cv? Tryd.prog 73 5 .u8 = true := by kernel_rfl
theorem dv_ar_24_32 : ar? Tryd.prog 24 32 = true := by kernel_rfl
theorem dv_row_24_32 : row? Tryd.prog 24 32 = true := by kernel_rfl
set_option maxHeartbeats 4000000 in
set_option maxRecDepth 100000 in
theorem sum_any (all : List By) (A : Option Addr) (q k : Nat) (p : Addr) (w : World) (hKt : At w ⟨0, 0, none⟩ (wcs kTab)) (zh : At w p (hcs (feed hIni all).1 (.slice A q k) ((BitVec.ofNat 64 all.length).toNat : Int))) (hR : Rb w A q (feed hIni all).2) :
    Calls Tryd.prog 35 #[.pointer (some p)] w fun e w' => e = .returned (.agg (bcs (sha all)).toArray) ∧ Below w.heap.size w w' := by
 have h0 := kt_pos hKt
 refine calls_start Tryd.func35 rfl rfl rfl (fun a F => ?_)
 have M : Mm w w [] := Mm.nil w
 refine wp_seq ?_
 refine wp_region_lit ?_
 refine list_do (wn rfl) (fun K hK => ?_)
 refine ow_alloc F M rfl rfl 24 rfl (.agg (bcs (List.replicate 32 0)).toArray) z24 ((bcs (List.replicate 32 0)).toArray) rfl ?_
 clear F M a; intro a g2 v F M hb hg
 refine hK _ _ ?_
 clear hK K
 clear hb hg; try clear w
 refine wpList_nil ?_
 replace F : Fr 67 a [(0, .pointer (some p)), (2, .pointer (some ⟨g2, 0, none⟩))] := F.keep ⟨rfl, rfl, trivial⟩
 refine then_n ?_
 refine wp_seq ?_
 refine wp_only (fun ar wr => ∃ (g11 : Nat), ∃ (A_16 : Option Addr), ∃ (c_16 : Nat), ∃ (g3 : Nat), Fr 67 ar [(0, .pointer (some p)), (2, .pointer (some ⟨g2, 0, none⟩)), (3, .pointer (some ⟨g3, 0, none⟩))] ∧ Mm w wr [⟨g3, (hcs ((feed hIni all).1) (.slice A_16 (((feed hIni all).2).length) c_16) (((0 : Nm).toNat : Int))).toArray, 82⟩, ⟨g2, ((bcs (List.replicate 32 0)).toArray), 24⟩] ∧ OwB wr w.heap.size (.slice A_16 (((feed hIni all).2).length) c_16) ((feed hIni all).2)) ?_ ?_
 ·
  refine region_anyM dv_follows_mixedOrders M [] (fun w' M => (by refine M.pick' [] _ ?_ (by decide); exact trivial)) ?_; clear M; intro wD M hb
  clear hb; try clear v
  have hS : Mm w wD [] := (by refine M.pick' [] _ ?_ (by decide); exact trivial)
  refine any_val F 0 rfl (by kernel_rfl) (wn rfl) rfl rfl (.pointer (some p)) (fun w' hS' => ex_move _ rfl _ (F.e rfl)) hS ?_; clear F a; intro a F
  refine any_val F 1 rfl (by kernel_rfl) (wn rfl) rfl rfl (.pointer (some p)) (fun w' hS' => ex_nilck _ rfl _ (F.e rfl)) hS ?_; clear F a; intro a F
  refine any_val F 2 rfl (by kernel_rfl) (wn rfl) rfl rfl (.pointer (some p)) (fun w' hS' => ex_fa _ _ _ rfl _ (F.e rfl) 0 dv_fa_82_0_0 p rfl) hS ?_; clear F a; intro a F
  refine any_val F 3 rfl (by kernel_rfl) (wn rfl) rfl rfl (.agg ((wcs ((feed hIni all).1)).toArray)) (fun w' hS' => ex_load _ _ rfl _ (F.e rfl) _ (lvr (cs := wcs ((feed hIni all).1)) (by rw [wcs_len, show _ = 8 from (feed_len rfl _)]; exact dv_row_74_8) (hcs_words ((zh.below hS'.bel))))) hS ?_; clear F a; intro a F
  refine any_val F 5 rfl (by kernel_rfl) (wn rfl) rfl rfl (.pointer (some p)) (fun w' hS' => ex_move _ rfl _ (F.e rfl)) hS ?_; clear F a; intro a F
  refine any_val F 6 rfl (by kernel_rfl) (wn rfl) rfl rfl (.pointer (some p)) (fun w' hS' => ex_nilck _ rfl _ (F.e rfl)) hS ?_; clear F a; intro a F
  refine any_val F 7 rfl (by kernel_rfl) (wn rfl) rfl rfl (.pointer (some (p.add 8))) (fun w' hS' => ex_fa _ _ _ rfl _ (F.e rfl) 8 dv_fa_82_1_8 (p.add 8) rfl) hS ?_; clear F a; intro a F
  refine any_val F 8 rfl (by kernel_rfl) (wn rfl) rfl rfl (.slice A q k) (fun w' hS' => ex_load _ _ rfl _ (F.e rfl) _ (lv1 dv_one_23 ((zh.below hS'.bel).cell 8 _ (hcs_8 (feed_len rfl _))))) hS ?_; clear F a; intro a F
  refine any_ready [4, 11] (by kernel_rfl) (by simp) ?_
  refine ready_do rfl (wn rfl) (fun K hK => ?_) ?_
  ·
   refine ow_bslice F M rfl rfl 23 0 _ rfl #[] parts0 ((bcs ([])).toArray) 5 (bs0 _) ?_
   clear F M a; intro a g11 v F M hb hg
   replace hS : Mm w v [] := (by refine M.pick' [] _ ?_ (by decide); exact trivial)
   refine hK _ _ hS ?_
   clear hK K
   clear hb hg; try clear wD
   refine any_ready [9, 11] (by kernel_rfl) (by simp) ?_
   refine ready_do rfl (wn rfl) (fun K hK => ?_) ?_
   ·
    have O_x := OwB.of_block (base := w.heap.size) (bs := []) (sp := []) (n := 0) (c := 0) (show _ = some (Obj.cells (bcs [] ++ []).toArray 5 (0, 0)) from M.blk 0 _ rfl) (M.lo 0 _ rfl) rfl (Nat.le_refl _) (by decide) rfl
    replace M : Mm w v [⟨g2, ((bcs (List.replicate 32 0)).toArray), 24⟩] := (by refine M.pick' [1] _ ?_ (by decide); exact ⟨rfl, trivial⟩)
    refine ow_appZ F M rfl rfl rfl rfl _ _ rfl (some ⟨g11, 0, none⟩) 0 0 [] (feed hIni all).2 (feed hIni all).2 rfl A q k (F.e rfl) (F.e rfl) O_x (hR.below M.bel) (by have := hR.1; have := feed_small hIni all; simp only [List.length_nil]; omega) ?_
    clear F a M O_x; intro a A_16 c_16 u F M O_x hg hat; clear hg hat
    replace hS : Mm w u [] := (by refine M.pick' [] _ ?_ (by decide); exact trivial)
    refine hK _ _ hS ?_
    clear hK K
    try clear v
    refine any_val F 10 rfl (by kernel_rfl) (wn rfl) rfl rfl (.agg ((hcs ((feed hIni all).1) (.slice A_16 (((feed hIni all).2).length) c_16) (((0 : Nm).toNat : Int))).toArray)) (fun w' hS' => ex_build 82 _ rfl #[(0, .agg ((wcs ((feed hIni all).1)).toArray)), (1, .slice A_16 (((feed hIni all).2).length) c_16)] (parts2 (F.e rfl) (F.e rfl)) (.agg ((hcs ((feed hIni all).1) (.slice A_16 (((feed hIni all).2).length) c_16) (((0 : Nm).toNat : Int))).toArray)) (build82 ((feed hIni all).1) (feed_len rfl _) A_16 (((feed hIni all).2).length) c_16 _)) hS ?_; clear F a; intro a F
    refine any_ready [11] (by kernel_rfl) (by simp) ?_
    refine ready_do rfl (wn rfl) (fun K hK => ?_) AllReadyH.nil
    refine ow_alloc F M rfl rfl 82 rfl (.agg (hcs zW8 (.slice none 0 0) 0).toArray) z82 ((hcs zW8 (.slice none 0 0) (0)).toArray) rfl ?_
    clear F M a; intro a g3 v F M hb hg
    replace hS : Mm w v [] := (by refine M.pick' [] _ ?_ (by decide); exact trivial)
    refine hK _ _ hS ?_
    clear hK K
    have K_O_x := O_x
    replace O_x := O_x.below hb
    have hz_g3 := hb; have lo_g3 := hg
    clear hb hg; try clear u
    refine any_ready [12] (by kernel_rfl) (by simp) ?_
    refine ready_do rfl (wn rfl) (fun K hK => ?_) AllReadyH.nil
    refine ow_put F M rfl 82 _ _ rfl 0 _ ((hcs zW8 (.slice none 0 0) (0)).toArray) _ rfl (F.e rfl) ((hcs ((feed hIni all).1) (.slice A_16 (((feed hIni all).2).length) c_16) (((0 : Nm).toNat : Int))).toArray) (F.e rfl) (sz82 (feed_len rfl _)) (sz82_eq (show zW8.length = 8 from rfl) (feed_len rfl _)) (hcs_one _ A_16 (((feed hIni all).2).length) c_16 _) ?_
    clear F a; have Mo := M; clear M; intro a u F M hgr
    replace hS : Mm w u [] := (by refine M.pick' [] _ ?_ (by decide); exact trivial)
    refine hK _ _ hS ?_
    clear hK K
    have hzz := S_grown hz_g3 hgr lo_g3
    replace O_x := K_O_x.below hzz
    clear hzz hz_g3 lo_g3 K_O_x
    clear Mo hgr; try clear v
    replace M : Mm w u [⟨g3, (hcs ((feed hIni all).1) (.slice A_16 (((feed hIni all).2).length) c_16) (((0 : Nm).toNat : Int))).toArray, 82⟩, ⟨g2, ((bcs (List.replicate 32 0)).toArray), 24⟩] := M
    refine any_done (by kernel_rfl) ?_
    exact ⟨g11, A_16, c_16, g3, F.keep ⟨rfl, rfl, rfl, trivial⟩, (by refine M.pick' [0, 1] _ ?_ (by decide); exact ⟨rfl, rfl, trivial⟩), O_x⟩
   refine ready_do rfl (wn rfl) (fun K hK => ?_) AllReadyH.nil
   refine ow_alloc F M rfl rfl 82 rfl (.agg (hcs zW8 (.slice none 0 0) 0).toArray) z82 ((hcs zW8 (.slice none 0 0) (0)).toArray) rfl ?_
   clear F M a; intro a g3 u F M hb hg
   replace hS : Mm w u [] := (by refine M.pick' [] _ ?_ (by decide); exact trivial)
   refine hK _ _ hS ?_
   clear hK K
   clear hb hg; try clear v
   refine any_ready [9] (by kernel_rfl) (by simp) ?_
   refine ready_do rfl (wn rfl) (fun K hK => ?_) AllReadyH.nil
   have O_x := OwB.of_block (base := w.heap.size) (bs := []) (sp := []) (n := 0) (c := 0) (show _ = some (Obj.cells (bcs [] ++ []).toArray 5 (0, 0)) from M.blk 1 _ rfl) (M.lo 1 _ rfl) rfl (Nat.le_refl _) (by decide) rfl
   replace M : Mm w u [⟨g3, ((hcs zW8 (.slice none 0 0) (0)).toArray), 82⟩, ⟨g2, ((bcs (List.replicate 32 0)).toArray), 24⟩] := (by refine M.pick' [0, 2] _ ?_ (by decide); exact ⟨rfl, rfl, trivial⟩)
   refine ow_appZ F M rfl rfl rfl rfl _ _ rfl (some ⟨g11, 0, none⟩) 0 0 [] (feed hIni all).2 (feed hIni all).2 rfl A q k (F.e rfl) (F.e rfl) O_x (hR.below M.bel) (by have := hR.1; have := feed_small hIni all; simp only [List.length_nil]; omega) ?_
   clear F a M O_x; intro a A_16 c_16 v F M O_x hg hat; clear hg hat
   replace hS : Mm w v [] := (by refine M.pick' [] _ ?_ (by decide); exact trivial)
   refine hK _ _ hS ?_
   clear hK K
   try clear u
   refine any_val F 10 rfl (by kernel_rfl) (wn rfl) rfl rfl (.agg ((hcs ((feed hIni all).1) (.slice A_16 (((feed hIni all).2).length) c_16) (((0 : Nm).toNat : Int))).toArray)) (fun w' hS' => ex_build 82 _ rfl #[(0, .agg ((wcs ((feed hIni all).1)).toArray)), (1, .slice A_16 (((feed hIni all).2).length) c_16)] (parts2 (F.e rfl) (F.e rfl)) (.agg ((hcs ((feed hIni all).1) (.slice A_16 (((feed hIni all).2).length) c_16) (((0 : Nm).toNat : Int))).toArray)) (build82 ((feed hIni all).1) (feed_len rfl _) A_16 (((feed hIni all).2).length) c_16 _)) hS ?_; clear F a; intro a F
   refine any_ready [12] (by kernel_rfl) (by simp) ?_
   refine ready_do rfl (wn rfl) (fun K hK => ?_) AllReadyH.nil
   refine ow_put F M rfl 82 _ _ rfl 0 _ ((hcs zW8 (.slice none 0 0) (0)).toArray) _ rfl (F.e rfl) ((hcs ((feed hIni all).1) (.slice A_16 (((feed hIni all).2).length) c_16) (((0 : Nm).toNat : Int))).toArray) (F.e rfl) (sz82 (feed_len rfl _)) (sz82_eq (show zW8.length = 8 from rfl) (feed_len rfl _)) (hcs_one _ A_16 (((feed hIni all).2).length) c_16 _) ?_
   clear F a; have Mo := M; clear M; intro a u F M hgr
   replace hS : Mm w u [] := (by refine M.pick' [] _ ?_ (by decide); exact trivial)
   refine hK _ _ hS ?_
   clear hK K
   replace O_x := O_x.grown (Mo.blk 0 _ rfl) (by show 5 ≠ 82; decide) hgr
   clear Mo hgr; try clear v
   replace M : Mm w u [⟨g3, (hcs ((feed hIni all).1) (.slice A_16 (((feed hIni all).2).length) c_16) (((0 : Nm).toNat : Int))).toArray, 82⟩, ⟨g2, ((bcs (List.replicate 32 0)).toArray), 24⟩] := M
   refine any_done (by kernel_rfl) ?_
   exact ⟨g11, A_16, c_16, g3, F.keep ⟨rfl, rfl, rfl, trivial⟩, (by refine M.pick' [0, 1] _ ?_ (by decide); exact ⟨rfl, rfl, trivial⟩), O_x⟩
  refine ready_do rfl (wn rfl) (fun K hK => ?_) AllReadyH.nil
  refine ow_alloc F M rfl rfl 82 rfl (.agg (hcs zW8 (.slice none 0 0) 0).toArray) z82 ((hcs zW8 (.slice none 0 0) (0)).toArray) rfl ?_
  clear F M a; intro a g3 v F M hb hg
  replace hS : Mm w v [] := (by refine M.pick' [] _ ?_ (by decide); exact trivial)
  refine hK _ _ hS ?_
  clear hK K
  clear hb hg; try clear wD
  refine any_ready [4] (by kernel_rfl) (by simp) ?_
  refine ready_do rfl (wn rfl) (fun K hK => ?_) AllReadyH.nil
  refine ow_bslice F M rfl rfl 23 0 _ rfl #[] parts0 ((bcs ([])).toArray) 5 (bs0 _) ?_
  clear F M a; intro a g11 u F M hb hg
  replace hS : Mm w u [] := (by refine M.pick' [] _ ?_ (by decide); exact trivial)
  refine hK _ _ hS ?_
  clear hK K
  clear hb hg; try clear v
  refine any_ready [9] (by kernel_rfl) (by simp) ?_
  refine ready_do rfl (wn rfl) (fun K hK => ?_) AllReadyH.nil
  have O_x := OwB.of_block (base := w.heap.size) (bs := []) (sp := []) (n := 0) (c := 0) (show _ = some (Obj.cells (bcs [] ++ []).toArray 5 (0, 0)) from M.blk 0 _ rfl) (M.lo 0 _ rfl) rfl (Nat.le_refl _) (by decide) rfl
  replace M : Mm w u [⟨g3, ((hcs zW8 (.slice none 0 0) (0)).toArray), 82⟩, ⟨g2, ((bcs (List.replicate 32 0)).toArray), 24⟩] := (by refine M.pick' [1, 2] _ ?_ (by decide); exact ⟨rfl, rfl, trivial⟩)
  refine ow_appZ F M rfl rfl rfl rfl _ _ rfl (some ⟨g11, 0, none⟩) 0 0 [] (feed hIni all).2 (feed hIni all).2 rfl A q k (F.e rfl) (F.e rfl) O_x (hR.below M.bel) (by have := hR.1; have := feed_small hIni all; simp only [List.length_nil]; omega) ?_
  clear F a M O_x; intro a A_16 c_16 v F M O_x hg hat; clear hg hat
  replace hS : Mm w v [] := (by refine M.pick' [] _ ?_ (by decide); exact trivial)
  refine hK _ _ hS ?_
  clear hK K
  try clear u
  refine any_val F 10 rfl (by kernel_rfl) (wn rfl) rfl rfl (.agg ((hcs ((feed hIni all).1) (.slice A_16 (((feed hIni all).2).length) c_16) (((0 : Nm).toNat : Int))).toArray)) (fun w' hS' => ex_build 82 _ rfl #[(0, .agg ((wcs ((feed hIni all).1)).toArray)), (1, .slice A_16 (((feed hIni all).2).length) c_16)] (parts2 (F.e rfl) (F.e rfl)) (.agg ((hcs ((feed hIni all).1) (.slice A_16 (((feed hIni all).2).length) c_16) (((0 : Nm).toNat : Int))).toArray)) (build82 ((feed hIni all).1) (feed_len rfl _) A_16 (((feed hIni all).2).length) c_16 _)) hS ?_; clear F a; intro a F
  refine any_ready [12] (by kernel_rfl) (by simp) ?_
  refine ready_do rfl (wn rfl) (fun K hK => ?_) AllReadyH.nil
  refine ow_put F M rfl 82 _ _ rfl 0 _ ((hcs zW8 (.slice none 0 0) (0)).toArray) _ rfl (F.e rfl) ((hcs ((feed hIni all).1) (.slice A_16 (((feed hIni all).2).length) c_16) (((0 : Nm).toNat : Int))).toArray) (F.e rfl) (sz82 (feed_len rfl _)) (sz82_eq (show zW8.length = 8 from rfl) (feed_len rfl _)) (hcs_one _ A_16 (((feed hIni all).2).length) c_16 _) ?_
  clear F a; have Mo := M; clear M; intro a u F M hgr
  replace hS : Mm w u [] := (by refine M.pick' [] _ ?_ (by decide); exact trivial)
  refine hK _ _ hS ?_
  clear hK K
  replace O_x := O_x.grown (Mo.blk 0 _ rfl) (by show 5 ≠ 82; decide) hgr
  clear Mo hgr; try clear v
  replace M : Mm w u [⟨g3, (hcs ((feed hIni all).1) (.slice A_16 (((feed hIni all).2).length) c_16) (((0 : Nm).toNat : Int))).toArray, 82⟩, ⟨g2, ((bcs (List.replicate 32 0)).toArray), 24⟩] := M
  refine any_done (by kernel_rfl) ?_
  exact ⟨g11, A_16, c_16, g3, F.keep ⟨rfl, rfl, rfl, trivial⟩, (by refine M.pick' [0, 1] _ ?_ (by decide); exact ⟨rfl, rfl, trivial⟩), O_x⟩
 clear F M a
 intro a u hR; obtain ⟨g11, A_16, c_16, g3, F, M, O_x⟩ := hR; try clear v
 refine then_n ?_
 refine wp_seq ?_
 refine wp_region_lit ?_
 refine list_do (wn rfl) (fun K hK => ?_)
 refine ow_bslice F M rfl rfl 23 1 _ rfl #[(0, .int .u8 128)] (parts1 rfl) ((bcs ([0x80])).toArray) 5 (bs1_80 _) ?_
 clear F M a; intro a g18 v F M hb hg
 refine hK _ _ ?_
 clear hK K
 have hap := O_x.apart hg
 have hne : g18 ≠ g3 := fun e => by have := M.nd 0 1 _ _ rfl rfl e; omega
 replace O_x := O_x.below hb
 clear hb hg; try clear u
 refine list_do (wn rfl) (fun K hK => ?_)
 have hL : RbA v (some ⟨g18, 0, none⟩) 1 1 ([0x80]) g3 (.slice A_16 (((feed hIni all).2).length) c_16) := ⟨Rb.mk' (M.at (i := 0) rfl) rfl (by decide), Nat.le_refl _, fun _ ad e => by cases e; exact ⟨hne, hap⟩⟩
 replace M : Mm w v [⟨g3, (hcs ((feed hIni all).1) (.slice A_16 (((feed hIni all).2).length) c_16) (((0 : Nm).toNat : Int))).toArray, 82⟩, ⟨g2, ((bcs (List.replicate 32 0)).toArray), 24⟩] := (by refine M.pick' [1, 2] _ ?_ (by decide); exact ⟨rfl, rfl, trivial⟩)
 refine ow_call rfl rfl F 45 #[.pointer (some ⟨g3, 0, none⟩), .slice (some ⟨g18, 0, none⟩) 1 1] (ex_call 45 _ _ rfl rfl dv_ent_45 _ (map2 (F.e rfl) (F.e rfl))) (take_to all (dpad all 0) A_16 c_16 (0 : Nm) ((0 : Nm) + BitVec.ofNat 64 1) ([0x80]) (some ⟨g18, 0, none⟩) 1 1 g3 w.heap.size _ (hKt.below M.bel) h0 M.bel.size (M.lo 0 _ rfl) (M.blk 0 _ rfl) O_x hL (dpad_zero _) rfl) (fun e u hR => ?_)
 obtain ⟨he, A_19, k_19, hn, O_n, hC⟩ := hR
 refine ⟨.tuple #[], he, ?_⟩; clear he F a; intro a F
 refine hK _ _ ?_
 clear hK K
 have M1 := M.chg (i := 0) rfl O_x rfl hC ((hcs ((feed hIni (dpad all 0)).1) (.slice A_19 ((feed hIni (dpad all 0)).2.length) k_19) ((((0 : Nm) + BitVec.ofNat 64 1).toNat : Int))).toArray) hn
 replace M := M1; replace O_x := O_n; clear M1 hC hn hL
 replace M : Mm w u [⟨g3, (hcs ((feed hIni (dpad all 0)).1) (.slice A_19 ((feed hIni (dpad all 0)).2.length) k_19) ((((0 : Nm) + BitVec.ofNat 64 1).toNat : Int))).toArray, 82⟩, ⟨g2, ((bcs (List.replicate 32 0)).toArray), 24⟩] := M; try clear v
 refine wpList_nil ?_
 replace F : Fr 67 a [(0, .pointer (some p)), (2, .pointer (some ⟨g2, 0, none⟩)), (3, .pointer (some ⟨g3, 0, none⟩))] := F.keep ⟨rfl, rfl, rfl, trivial⟩
 refine then_n ?_
 refine wp_seq ?_
 refine wp_block ?_
 refine wp_loopN (fun mq ar wr => ∃ (j : Nat), ∃ (A2 : Option Addr), ∃ (k2 : Nat), ∃ (x2 : Nm), Fr 67 ar [(0, .pointer (some p)), (2, .pointer (some ⟨g2, 0, none⟩)), (3, .pointer (some ⟨g3, 0, none⟩))] ∧ Mm w wr [⟨g3, (hcs ((feed hIni (dpad all j)).1) (.slice A2 ((feed hIni (dpad all j)).2.length) k2) ((x2.toNat : Int))).toArray, 82⟩, ⟨g2, ((bcs (List.replicate 32 0)).toArray), 24⟩] ∧ OwB wr w.heap.size (.slice A2 ((feed hIni (dpad all j)).2.length) k2) ((feed hIni (dpad all j)).2) ∧ j ≤ zeros all.length ∧ mq + j = (zeros all.length)) (zeros all.length) ?_ ?_
 ·
  exact ⟨0, A_19, k_19, ((0 : Nm) + BitVec.ofNat 64 1), F.keep ⟨rfl, rfl, rfl, trivial⟩, (by refine M.pick' [0, 1] _ ?_ (by decide); exact ⟨rfl, rfl, trivial⟩), O_x, (Nat.zero_le _), (by omega)⟩
 clear F M a O_x
 rintro mq a v ⟨j, A2, k2, x2, F, M, O_x, hj, hq⟩; try clear u
 by_cases hz : j < zeros all.length
 ·
  have hne56 : (feed hIni (dpad all j)).2.length ≠ 56 := by rw [feed_rest, dpad_len]; exact zeros_less hz
  refine wp_seq ?_
  refine wp_seq ?_
  refine wp_region_lit ?_
  refine list_val F (wn rfl) rfl rfl (.pointer (some ⟨g3, 8, none⟩)) (ex_fa _ _ _ rfl _ (F.e rfl) 8 dv_fa_82_1_8 ⟨g3, 8, none⟩ rfl) ?_; clear F a; intro a F
  refine list_val F (wn rfl) rfl rfl (.slice A2 ((feed hIni (dpad all j)).2.length) k2) (ex_load _ _ rfl _ (F.e rfl) _ (lv1 dv_one_23 (M.cell (i := 0) rfl (j := 8) (hcs_a8 (feed_len rfl _))))) ?_; clear F a; intro a F
  refine list_val F (wn rfl) rfl rfl (.int .i64 (((feed hIni (dpad all j)).2.length : Nat) : Int)) (ex_len _ _ rfl 1 dv_sl_23_1 _ _ _ (F.e rfl)) ?_; clear F a; intro a F
  refine list_val F (wn rfl) rfl rfl (.bool true) (ex_bin .neq _ _ _ _ rfl .i64 _ _ (F.e rfl) rfl _ (b_neq (by simp; omega))) ?_; clear F a; intro a F
  refine wpList_nil ?_
  replace F : Fr 67 a [(0, .pointer (some p)), (2, .pointer (some ⟨g2, 0, none⟩)), (3, .pointer (some ⟨g3, 0, none⟩)), (23, .bool true)] := F.keep ⟨rfl, rfl, rfl, rfl, trivial⟩
  refine then_n ?_
  refine wp_cond_true (F.e rfl) ?_
  refine wp_skip ?_
  refine then_n ?_
  refine wp_block ?_
  refine wp_region_lit ?_
  refine list_do (wn rfl) (fun K hK => ?_)
  refine ow_bslice F M rfl rfl 23 1 _ rfl #[(0, .int .u8 0)] (parts1 rfl) ((bcs ([0])).toArray) 5 (bs1_0 _) ?_
  clear F M a; intro a g24 u F M hb hg
  refine hK _ _ ?_
  clear hK K
  have hap := O_x.apart hg
  have hne : g24 ≠ g3 := fun e => by have := M.nd 0 1 _ _ rfl rfl e; omega
  replace O_x := O_x.below hb
  clear hb hg; try clear v
  refine list_do (wn rfl) (fun K hK => ?_)
  have hL : RbA u (some ⟨g24, 0, none⟩) 1 1 ([0]) g3 (.slice A2 ((feed hIni (dpad all j)).2.length) k2) := ⟨Rb.mk' (M.at (i := 0) rfl) rfl (by decide), Nat.le_refl _, fun _ ad e => by cases e; exact ⟨hne, hap⟩⟩
  replace M : Mm w u [⟨g3, (hcs ((feed hIni (dpad all j)).1) (.slice A2 ((feed hIni (dpad all j)).2.length) k2) ((x2.toNat : Int))).toArray, 82⟩, ⟨g2, ((bcs (List.replicate 32 0)).toArray), 24⟩] := (by refine M.pick' [1, 2] _ ?_ (by decide); exact ⟨rfl, rfl, trivial⟩)
  refine ow_call rfl rfl F 45 #[.pointer (some ⟨g3, 0, none⟩), .slice (some ⟨g24, 0, none⟩) 1 1] (ex_call 45 _ _ rfl rfl dv_ent_45 _ (map2 (F.e rfl) (F.e rfl))) (take_to (dpad all j) (dpad all (j + 1)) A2 k2 x2 (x2 + BitVec.ofNat 64 1) ([0]) (some ⟨g24, 0, none⟩) 1 1 g3 w.heap.size _ (hKt.below M.bel) h0 M.bel.size (M.lo 0 _ rfl) (M.blk 0 _ rfl) O_x hL (dpad_next _ _) rfl) (fun e v hR => ?_)
  obtain ⟨he, A_25, k_25, hn, O_n, hC⟩ := hR
  refine ⟨.tuple #[], he, ?_⟩; clear he F a; intro a F
  refine hK _ _ ?_
  clear hK K
  have M1 := M.chg (i := 0) rfl O_x rfl hC ((hcs ((feed hIni (dpad all (j + 1))).1) (.slice A_25 ((feed hIni (dpad all (j + 1))).2.length) k_25) (((x2 + BitVec.ofNat 64 1).toNat : Int))).toArray) hn
  replace M := M1; replace O_x := O_n; clear M1 hC hn hL
  replace M : Mm w v [⟨g3, (hcs ((feed hIni (dpad all (j + 1))).1) (.slice A_25 ((feed hIni (dpad all (j + 1))).2.length) k_25) (((x2 + BitVec.ofNat 64 1).toNat : Int))).toArray, 82⟩, ⟨g2, ((bcs (List.replicate 32 0)).toArray), 24⟩] := M; try clear u
  refine wpList_nil ?_
  replace F : Fr 67 a [(0, .pointer (some p)), (2, .pointer (some ⟨g2, 0, none⟩)), (3, .pointer (some ⟨g3, 0, none⟩)), (23, .bool true)] := F.keep ⟨rfl, rfl, rfl, rfl, trivial⟩
  refine in_n ?_
  refine then_n ?_
  exact ⟨(zeros all.length) - (j + 1), by omega, (j + 1), A_25, k_25, (x2 + BitVec.ofNat 64 1), F.keep ⟨rfl, rfl, rfl, trivial⟩, (by refine M.pick' [0, 1] _ ?_ (by decide); exact ⟨rfl, rfl, trivial⟩), O_x, (by omega), (by omega)⟩
 have hjz : j = zeros all.length := by omega
 have he56 : (feed hIni (dpad all j)).2.length = 56 := by rw [feed_rest, dpad_len, hjz]; exact zeros_fit _
 refine wp_seq ?_
 refine wp_seq ?_
 refine wp_region_lit ?_
 refine list_val F (wn rfl) rfl rfl (.pointer (some ⟨g3, 8, none⟩)) (ex_fa _ _ _ rfl _ (F.e rfl) 8 dv_fa_82_1_8 ⟨g3, 8, none⟩ rfl) ?_; clear F a; intro a F
 refine list_val F (wn rfl) rfl rfl (.slice A2 ((feed hIni (dpad all j)).2.length) k2) (ex_load _ _ rfl _ (F.e rfl) _ (lv1 dv_one_23 (M.cell (i := 0) rfl (j := 8) (hcs_a8 (feed_len rfl _))))) ?_; clear F a; intro a F
 refine list_val F (wn rfl) rfl rfl (.int .i64 (((feed hIni (dpad all j)).2.length : Nat) : Int)) (ex_len _ _ rfl 1 dv_sl_23_1 _ _ _ (F.e rfl)) ?_; clear F a; intro a F
 refine list_val F (wn rfl) rfl rfl (.bool false) (ex_bin .neq _ _ _ _ rfl .i64 _ _ (F.e rfl) rfl _ (b_neq (by simp; omega))) ?_; clear F a; intro a F
 refine wpList_nil ?_
 replace F : Fr 67 a [(0, .pointer (some p)), (2, .pointer (some ⟨g2, 0, none⟩)), (3, .pointer (some ⟨g3, 0, none⟩)), (23, .bool false)] := F.keep ⟨rfl, rfl, rfl, rfl, trivial⟩
 refine then_n ?_
 refine wp_cond_false (F.e rfl) ?_
 refine wp_exit ?_
 refine then_x ?_
 refine then_x ?_
 refine in_hit ?_
 refine then_n ?_
 refine wp_seq ?_
 refine wp_region_lit ?_
 refine list_val F (wn rfl) rfl rfl (.pointer (some p)) (ex_move _ rfl _ (F.e rfl)) ?_; clear F a; intro a F
 refine list_val F (wn rfl) rfl rfl (.pointer (some p)) (ex_nilck _ rfl _ (F.e rfl)) ?_; clear F a; intro a F
 refine list_val F (wn rfl) rfl rfl (.pointer (some (p.add 9))) (ex_fa _ _ _ rfl _ (F.e rfl) 9 dv_fa_82_2_9 (p.add 9) rfl) ?_; clear F a; intro a F
 refine list_val F (wn rfl) rfl rfl (.int .u64 ((BitVec.ofNat 64 all.length).toNat : Int)) (ex_load _ _ rfl _ (F.e rfl) _ (lv1 dv_one_62 ((zh.below M.bel).cell 9 _ (hcs_9 (feed_len rfl _))))) ?_; clear F a; intro a F
 refine list_val F (wn rfl) rfl rfl (.int .u64 ((BitVec.ofNat 64 8 * BitVec.ofNat 64 all.length).toNat : Int)) (ex_bin .mul _ _ _ _ rfl .u64 _ _ rfl (F.e rfl) _ (b_mul (w64_mul 8 _))) ?_; clear F a; intro a F
 refine list_do (wn rfl) (fun K hK => ?_)
 refine ow_call rfl rfl F 44 #[.int .u64 ((BitVec.ofNat 64 8 * BitVec.ofNat 64 all.length).toNat : Int)] (ex_call 44 _ _ rfl rfl dv_ent_44 _ (map1 (F.e rfl))) (eight_any (BitVec.ofNat 64 8 * BitVec.ofNat 64 all.length) _) (fun e u hR => ?_)
 obtain ⟨g31, he, hg31, hL31, hb⟩ := hR
 have hap := O_x.apart hg31
 have hne : g31 ≠ g3 := by have := M.lt (i := 0) rfl; simp only at this; omega
 refine ⟨.slice (some ⟨g31, 0, none⟩) 8 8, he, ?_⟩; clear he F a; intro a F
 refine hK _ _ ?_
 clear hK K
 replace O_x := O_x.below hb
 replace M := M.below hb; clear hb; try clear v
 refine list_do (wn rfl) (fun K hK => ?_)
 have hL : RbA u (some ⟨g31, 0, none⟩) 8 8 (be8 (BitVec.ofNat 64 8 * BitVec.ofNat 64 all.length)) g3 (.slice A2 ((feed hIni (dpad all j)).2.length) k2) := ⟨hL31, Nat.le_refl _, fun _ ad e => by cases e; exact ⟨hne, hap⟩⟩
 refine ow_call rfl rfl F 45 #[.pointer (some ⟨g3, 0, none⟩), .slice (some ⟨g31, 0, none⟩) 8 8] (ex_call 45 _ _ rfl rfl dv_ent_45 _ (map2 (F.e rfl) (F.e rfl))) (take_to (dpad all j) (full all) A2 k2 x2 (x2 + BitVec.ofNat 64 8) (be8 (BitVec.ofNat 64 8 * BitVec.ofNat 64 all.length)) (some ⟨g31, 0, none⟩) 8 8 g3 w.heap.size _ (hKt.below M.bel) h0 M.bel.size (M.lo 0 _ rfl) (M.blk 0 _ rfl) O_x hL (by rw [hjz]; exact full_dpad all) rfl) (fun e v hR => ?_)
 obtain ⟨he, A_32, k_32, hn, O_n, hC⟩ := hR
 refine ⟨.tuple #[], he, ?_⟩; clear he F a; intro a F
 refine hK _ _ ?_
 clear hK K
 have M1 := M.chg (i := 0) rfl O_x rfl hC ((hcs ((feed hIni (full all)).1) (.slice A_32 ((feed hIni (full all)).2.length) k_32) (((x2 + BitVec.ofNat 64 8).toNat : Int))).toArray) hn
 replace M := M1; replace O_x := O_n; clear M1 hC hn hL
 replace M : Mm w v [⟨g3, (hcs ((feed hIni (full all)).1) (.slice A_32 ((feed hIni (full all)).2.length) k_32) (((x2 + BitVec.ofNat 64 8).toNat : Int))).toArray, 82⟩, ⟨g2, ((bcs (List.replicate 32 0)).toArray), 24⟩] := M; try clear u
 refine wpList_nil ?_
 replace F : Fr 67 a [(0, .pointer (some p)), (2, .pointer (some ⟨g2, 0, none⟩)), (3, .pointer (some ⟨g3, 0, none⟩)), (23, .bool false)] := F.keep ⟨rfl, rfl, rfl, rfl, trivial⟩
 refine then_n ?_
 refine wp_seq ?_
 clear O_x
 refine wp_region_lit ?_
 refine list_do (wn rfl) (fun K hK => ?_)
 refine ow_alloc F M rfl rfl 24 rfl (.agg (bcs (List.replicate 32 0)).toArray) z24 ((bcs (List.replicate 32 0)).toArray) rfl ?_
 clear F M a; intro a g4 u F M hb hg
 refine hK _ _ ?_
 clear hK K
 clear hb hg; try clear v
 refine wpList_nil ?_
 replace F : Fr 67 a [(0, .pointer (some p)), (2, .pointer (some ⟨g2, 0, none⟩)), (3, .pointer (some ⟨g3, 0, none⟩)), (4, .pointer (some ⟨g4, 0, none⟩)), (23, .bool false)] := F.keep ⟨rfl, rfl, rfl, rfl, rfl, trivial⟩
 refine then_n ?_
 refine wp_seq ?_
 refine wp_seq ?_
 refine wp_region_lit ?_
 refine list_val F (wn rfl) rfl rfl (.pointer (some ⟨g3, 0, none⟩)) (ex_fa _ _ _ rfl _ (F.e rfl) 0 dv_fa_82_0_0 ⟨g3, 0, none⟩ rfl) ?_; clear F a; intro a F
 refine list_val F (wn rfl) rfl rfl (.agg ((wcs ((feed hIni (full all)).1)).toArray)) (ex_load _ _ rfl _ (F.e rfl) _ (lvr (cs := wcs ((feed hIni (full all)).1)) (by rw [wcs_len, show _ = 8 from (feed_len rfl _)]; exact dv_row_74_8) (hcs_words (M.at (i := 1) rfl)))) ?_; clear F a; intro a F
 refine list_val F (wn rfl) rfl rfl (.int .i64 0) (ex_move _ rfl _ rfl) ?_; clear F a; intro a F
 refine wpList_nil ?_
 replace F : Fr 67 a [(0, .pointer (some p)), (2, .pointer (some ⟨g2, 0, none⟩)), (3, .pointer (some ⟨g3, 0, none⟩)), (4, .pointer (some ⟨g4, 0, none⟩)), (23, .bool false), (34, .agg ((wcs ((feed hIni (full all)).1)).toArray)), (35, .int .i64 0)] := F.keep ⟨rfl, rfl, rfl, rfl, rfl, rfl, rfl, trivial⟩
 refine then_n ?_
 refine wp_block ?_
 refine wp_loopN (fun mq ar wr => ∃ (i : Nat), ∃ (ol : List By), Fr 67 ar [(0, .pointer (some p)), (2, .pointer (some ⟨g2, 0, none⟩)), (3, .pointer (some ⟨g3, 0, none⟩)), (4, .pointer (some ⟨g4, 0, none⟩)), (23, .bool false), (34, .agg ((wcs ((feed hIni (full all)).1)).toArray)), (35, .int .i64 ((i : Nat) : Int))] ∧ Mm w wr [⟨g4, (bcs ol).toArray, 24⟩, ⟨g3, (hcs ((feed hIni (full all)).1) (.slice A_32 ((feed hIni (full all)).2.length) k_32) (((x2 + BitVec.ofNat 64 8).toNat : Int))).toArray, 82⟩, ⟨g2, ((bcs (List.replicate 32 0)).toArray), 24⟩] ∧ i ≤ 8 ∧ ol = fill (outB (feed hIni (full all)).1) 32 (4 * i) ∧ mq + i = 8) 8 ?_ ?_
 ·
  exact ⟨0, (List.replicate 32 0), F.keep ⟨rfl, rfl, rfl, rfl, rfl, rfl, rfl, trivial⟩, (by refine M.pick' [0, 1, 2] _ ?_ (by decide); exact ⟨rfl, rfl, rfl, trivial⟩), (Nat.zero_le _), (fill_zero _ _).symm, (by omega)⟩
 clear F M a
 rintro mq a v ⟨i, ol, F, M, hi, hol, hq⟩; try clear u
 have hll : ol.length = 32 := by rw [hol]; exact fill_len (by rw [outB_len, feed_len rfl]) (by omega)
 by_cases hin : i < 8
 ·
  refine wp_seq ?_
  refine wp_region_lit ?_
  refine list_val F (wn rfl) rfl rfl (.bool true) (ex_bin .lss _ _ _ _ rfl .i64 _ _ (F.e rfl) rfl _ (b_lss (decide_eq_true (by omega)))) ?_; clear F a; intro a F
  refine wpList_nil ?_
  replace F : Fr 67 a [(0, .pointer (some p)), (2, .pointer (some ⟨g2, 0, none⟩)), (3, .pointer (some ⟨g3, 0, none⟩)), (4, .pointer (some ⟨g4, 0, none⟩)), (23, .bool false), (34, .agg ((wcs ((feed hIni (full all)).1)).toArray)), (35, .int .i64 ((i : Nat) : Int)), (36, .bool true)] := F.keep ⟨rfl, rfl, rfl, rfl, rfl, rfl, rfl, rfl, trivial⟩
  refine then_n ?_
  refine wp_seq ?_
  refine wp_cond_true (F.e rfl) ?_
  refine wp_skip ?_
  refine then_n ?_
  refine wp_seq ?_
  refine wp_block ?_
  refine wp_seq ?_
  refine wp_region_lit ?_
  refine list_val F (wn rfl) rfl rfl (.int .i64 ((i : Nat) : Int)) (ex_move _ rfl _ (F.e rfl)) ?_; clear F a; intro a F
  refine list_val F (wn rfl) rfl rfl (wv (((feed hIni (full all)).1).getD i 0)) (ex_ixv 74 73 _ _ rfl 8 Tryd.underlying74 dv_plainKey_73 dv_info_73_map_size_some_1 _ (F.e rfl) .i64 _ (F.e rfl) i rfl (by omega) _ (wcs_arr (by rw [feed_len rfl]; omega))) ?_; clear F a; intro a F
  refine list_val F (wn rfl) rfl rfl (.int .i64 ((i : Nat) : Int)) (ex_assign _ rfl _ (F.e rfl)) ?_; clear F a; intro a F
  refine list_val F (wn rfl) rfl rfl (wv (((feed hIni (full all)).1).getD i 0)) (ex_assign _ rfl _ (F.e rfl)) ?_; clear F a; intro a F
  refine wpList_nil ?_
  replace F : Fr 67 a [(0, .pointer (some p)), (2, .pointer (some ⟨g2, 0, none⟩)), (3, .pointer (some ⟨g3, 0, none⟩)), (4, .pointer (some ⟨g4, 0, none⟩)), (5, .int .i64 ((i : Nat) : Int)), (6, wv (((feed hIni (full all)).1).getD i 0)), (23, .bool false), (34, .agg ((wcs ((feed hIni (full all)).1)).toArray)), (35, .int .i64 ((i : Nat) : Int)), (36, .bool true)] := F.keep ⟨rfl, rfl, rfl, rfl, rfl, rfl, rfl, rfl, rfl, rfl, trivial⟩
  refine then_n ?_
  refine wp_region_lit ?_
  refine list_val F (wn rfl) rfl rfl (.int .i64 ((i : Nat) : Int)) (ex_move _ rfl _ (F.e rfl)) ?_; clear F a; intro a F
  refine list_val F (wn rfl) rfl rfl (.int .i64 ((4 * i : Nat) : Int)) (ex_bin .mul _ _ _ _ rfl .i64 _ _ rfl (F.e rfl) _ (b_mul ((w_i64 (by omega) (by omega)).trans (by omega)))) ?_; clear F a; intro a F
  refine list_val F (wn rfl) rfl rfl (.int .i64 ((i : Nat) : Int)) (ex_move _ rfl _ (F.e rfl)) ?_; clear F a; intro a F
  refine list_val F (wn rfl) rfl rfl (.int .i64 ((4 * i : Nat) : Int)) (ex_bin .mul _ _ _ _ rfl .i64 _ _ rfl (F.e rfl) _ (b_mul ((w_i64 (by omega) (by omega)).trans (by omega)))) ?_; clear F a; intro a F
  refine list_val F (wn rfl) rfl rfl (.int .i64 ((4 * i + 1 : Nat) : Int)) (ex_bin .add _ _ _ _ rfl .i64 _ _ (F.e rfl) rfl _ (b_add ((w_i64 (by omega) (by omega)).trans (by omega)))) ?_; clear F a; intro a F
  refine list_val F (wn rfl) rfl rfl (.int .i64 ((i : Nat) : Int)) (ex_move _ rfl _ (F.e rfl)) ?_; clear F a; intro a F
  refine list_val F (wn rfl) rfl rfl (.int .i64 ((4 * i : Nat) : Int)) (ex_bin .mul _ _ _ _ rfl .i64 _ _ rfl (F.e rfl) _ (b_mul ((w_i64 (by omega) (by omega)).trans (by omega)))) ?_; clear F a; intro a F
  refine list_val F (wn rfl) rfl rfl (.int .i64 ((4 * i + 2 : Nat) : Int)) (ex_bin .add _ _ _ _ rfl .i64 _ _ (F.e rfl) rfl _ (b_add ((w_i64 (by omega) (by omega)).trans (by omega)))) ?_; clear F a; intro a F
  refine list_val F (wn rfl) rfl rfl (.int .i64 ((i : Nat) : Int)) (ex_move _ rfl _ (F.e rfl)) ?_; clear F a; intro a F
  refine list_val F (wn rfl) rfl rfl (.int .i64 ((4 * i : Nat) : Int)) (ex_bin .mul _ _ _ _ rfl .i64 _ _ rfl (F.e rfl) _ (b_mul ((w_i64 (by omega) (by omega)).trans (by omega)))) ?_; clear F a; intro a F
  refine list_val F (wn rfl) rfl rfl (.int .i64 ((4 * i + 3 : Nat) : Int)) (ex_bin .add _ _ _ _ rfl .i64 _ _ (F.e rfl) rfl _ (b_add ((w_i64 (by omega) (by omega)).trans (by omega)))) ?_; clear F a; intro a F
  refine list_val F (wn rfl) rfl rfl (wv (((feed hIni (full all)).1).getD i 0)) (ex_move _ rfl _ (F.e rfl)) ?_; clear F a; intro a F
  refine list_val F (wn rfl) rfl rfl (wv ((((feed hIni (full all)).1).getD i 0) >>> 24)) (ex_shrw _ _ _ _ rfl (((feed hIni (full all)).1).getD i 0) .u64 24 (F.e rfl) rfl rfl) ?_; clear F a; intro a F
  refine list_val F (wn rfl) rfl rfl (bv (BitVec.setWidth 8 ((((feed hIni (full all)).1).getD i 0) >>> 24))) (ex_low _ _ _ rfl dv_cv_73_5_u8 ((((feed hIni (full all)).1).getD i 0) >>> 24) (F.e rfl)) ?_; clear F a; intro a F
  refine list_val F (wn rfl) rfl rfl (wv (((feed hIni (full all)).1).getD i 0)) (ex_move _ rfl _ (F.e rfl)) ?_; clear F a; intro a F
  refine list_val F (wn rfl) rfl rfl (wv ((((feed hIni (full all)).1).getD i 0) >>> 16)) (ex_shrw _ _ _ _ rfl (((feed hIni (full all)).1).getD i 0) .u64 16 (F.e rfl) rfl rfl) ?_; clear F a; intro a F
  refine list_val F (wn rfl) rfl rfl (bv (BitVec.setWidth 8 ((((feed hIni (full all)).1).getD i 0) >>> 16))) (ex_low _ _ _ rfl dv_cv_73_5_u8 ((((feed hIni (full all)).1).getD i 0) >>> 16) (F.e rfl)) ?_; clear F a; intro a F
  refine list_val F (wn rfl) rfl rfl (wv (((feed hIni (full all)).1).getD i 0)) (ex_move _ rfl _ (F.e rfl)) ?_; clear F a; intro a F
  refine list_val F (wn rfl) rfl rfl (wv ((((feed hIni (full all)).1).getD i 0) >>> 8)) (ex_shrw _ _ _ _ rfl (((feed hIni (full all)).1).getD i 0) .u64 8 (F.e rfl) rfl rfl) ?_; clear F a; intro a F
  refine list_val F (wn rfl) rfl rfl (bv (BitVec.setWidth 8 ((((feed hIni (full all)).1).getD i 0) >>> 8))) (ex_low _ _ _ rfl dv_cv_73_5_u8 ((((feed hIni (full all)).1).getD i 0) >>> 8) (F.e rfl)) ?_; clear F a; intro a F
  refine list_val F (wn rfl) rfl rfl (wv (((feed hIni (full all)).1).getD i 0)) (ex_move _ rfl _ (F.e rfl)) ?_; clear F a; intro a F
  refine list_val F (wn rfl) rfl rfl (bv (BitVec.setWidth 8 (((feed hIni (full all)).1).getD i 0))) (ex_low _ _ _ rfl dv_cv_73_5_u8 (((feed hIni (full all)).1).getD i 0) (F.e rfl)) ?_; clear F a; intro a F
  refine list_val F (wn rfl) rfl rfl (.pointer (some ⟨g4, 4 * i, none⟩)) (ex_ixa _ _ _ rfl 32 dv_ar_24_32 ⟨g4, 0, none⟩ (F.e rfl) .i64 _ (F.e rfl) (4 * i) rfl (by omega) ⟨g4, 4 * i, none⟩ ((addr_add _ _ _).trans (by rw [Nat.zero_add]))) ?_; clear F a; intro a F
  refine list_do (wn rfl) (fun K hK => ?_)
  refine ow_store F M rfl 5 _ _ rfl 0 g4 _ _ rfl (4 * i) (F.e rfl) _ (F.e rfl) [bv (BitVec.setWidth 8 ((((feed hIni (full all)).1).getD i 0) >>> 24))] rfl dv_info_5_map_size_some_1 (by rw [List.size_toArray, bcs_len]; simp only [List.length_set, List.length_cons, List.length_nil, Nat.zero_add]; omega) (by simp [bv, Value.oneCell']) (bcs (ol.set (4 * i) (BitVec.setWidth 8 ((((feed hIni (full all)).1).getD i 0) >>> 24)))).toArray (congrArg List.toArray (bcs_set _ _ _ (by (try simp only [List.length_set]); omega))) ?_
  clear F a; have Mo := M; clear M; intro a u F M hgr
  refine hK _ _ ?_
  clear hK K
  clear Mo hgr; try clear v
  replace M : Mm w u [⟨g4, (bcs (ol.set (4 * i) (BitVec.setWidth 8 ((((feed hIni (full all)).1).getD i 0) >>> 24)))).toArray, 24⟩, ⟨g3, (hcs ((feed hIni (full all)).1) (.slice A_32 ((feed hIni (full all)).2.length) k_32) (((x2 + BitVec.ofNat 64 8).toNat : Int))).toArray, 82⟩, ⟨g2, ((bcs (List.replicate 32 0)).toArray), 24⟩] := M
  refine list_val F (wn rfl) rfl rfl (.pointer (some ⟨g4, 4 * i + 1, none⟩)) (ex_ixa _ _ _ rfl 32 dv_ar_24_32 ⟨g4, 0, none⟩ (F.e rfl) .i64 _ (F.e rfl) (4 * i + 1) rfl (by omega) ⟨g4, 4 * i + 1, none⟩ ((addr_add _ _ _).trans (by rw [Nat.zero_add]))) ?_; clear F a; intro a F
  refine list_do (wn rfl) (fun K hK => ?_)
  refine ow_store F M rfl 5 _ _ rfl 0 g4 _ _ rfl (4 * i + 1) (F.e rfl) _ (F.e rfl) [bv (BitVec.setWidth 8 ((((feed hIni (full all)).1).getD i 0) >>> 16))] rfl dv_info_5_map_size_some_1 (by rw [List.size_toArray, bcs_len]; simp only [List.length_set, List.length_cons, List.length_nil, Nat.zero_add]; omega) (by simp [bv, Value.oneCell']) (bcs ((ol.set (4 * i) (BitVec.setWidth 8 ((((feed hIni (full all)).1).getD i 0) >>> 24))).set (4 * i + 1) (BitVec.setWidth 8 ((((feed hIni (full all)).1).getD i 0) >>> 16)))).toArray (congrArg List.toArray (bcs_set _ _ _ (by (try simp only [List.length_set]); omega))) ?_
  clear F a; have Mo := M; clear M; intro a v F M hgr
  refine hK _ _ ?_
  clear hK K
  clear Mo hgr; try clear u
  replace M : Mm w v [⟨g4, (bcs ((ol.set (4 * i) (BitVec.setWidth 8 ((((feed hIni (full all)).1).getD i 0) >>> 24))).set (4 * i + 1) (BitVec.setWidth 8 ((((feed hIni (full all)).1).getD i 0) >>> 16)))).toArray, 24⟩, ⟨g3, (hcs ((feed hIni (full all)).1) (.slice A_32 ((feed hIni (full all)).2.length) k_32) (((x2 + BitVec.ofNat 64 8).toNat : Int))).toArray, 82⟩, ⟨g2, ((bcs (List.replicate 32 0)).toArray), 24⟩] := M
  refine list_val F (wn rfl) rfl rfl (.pointer (some ⟨g4, 4 * i + 2, none⟩)) (ex_ixa _ _ _ rfl 32 dv_ar_24_32 ⟨g4, 0, none⟩ (F.e rfl) .i64 _ (F.e rfl) (4 * i + 2) rfl (by omega) ⟨g4, 4 * i + 2, none⟩ ((addr_add _ _ _).trans (by rw [Nat.zero_add]))) ?_; clear F a; intro a F
  refine list_do (wn rfl) (fun K hK => ?_)
  refine ow_store F M rfl 5 _ _ rfl 0 g4 _ _ rfl (4 * i + 2) (F.e rfl) _ (F.e rfl) [bv (BitVec.setWidth 8 ((((feed hIni (full all)).1).getD i 0) >>> 8))] rfl dv_info_5_map_size_some_1 (by rw [List.size_toArray, bcs_len]; simp only [List.length_set, List.length_cons, List.length_nil, Nat.zero_add]; omega) (by simp [bv, Value.oneCell']) (bcs (((ol.set (4 * i) (BitVec.setWidth 8 ((((feed hIni (full all)).1).getD i 0) >>> 24))).set (4 * i + 1) (BitVec.setWidth 8 ((((feed hIni (full all)).1).getD i 0) >>> 16))).set (4 * i + 2) (BitVec.setWidth 8 ((((feed hIni (full all)).1).getD i 0) >>> 8)))).toArray (congrArg List.toArray (bcs_set _ _ _ (by (try simp only [List.length_set]); omega))) ?_
  clear F a; have Mo := M; clear M; intro a u F M hgr
  refine hK _ _ ?_
  clear hK K
  clear Mo hgr; try clear v
  replace M : Mm w u [⟨g4, (bcs (((ol.set (4 * i) (BitVec.setWidth 8 ((((feed hIni (full all)).1).getD i 0) >>> 24))).set (4 * i + 1) (BitVec.setWidth 8 ((((feed hIni (full all)).1).getD i 0) >>> 16))).set (4 * i + 2) (BitVec.setWidth 8 ((((feed hIni (full all)).1).getD i 0) >>> 8)))).toArray, 24⟩, ⟨g3, (hcs ((feed hIni (full all)).1) (.slice A_32 ((feed hIni (full all)).2.length) k_32) (((x2 + BitVec.ofNat 64 8).toNat : Int))).toArray, 82⟩, ⟨g2, ((bcs (List.replicate 32 0)).toArray), 24⟩] := M
  refine list_val F (wn rfl) rfl rfl (.pointer (some ⟨g4, 4 * i + 3, none⟩)) (ex_ixa _ _ _ rfl 32 dv_ar_24_32 ⟨g4, 0, none⟩ (F.e rfl) .i64 _ (F.e rfl) (4 * i + 3) rfl (by omega) ⟨g4, 4 * i + 3, none⟩ ((addr_add _ _ _).trans (by rw [Nat.zero_add]))) ?_; clear F a; intro a F
  refine list_do (wn rfl) (fun K hK => ?_)
  refine ow_store F M rfl 5 _ _ rfl 0 g4 _ _ rfl (4 * i + 3) (F.e rfl) _ (F.e rfl) [bv (BitVec.setWidth 8 (((feed hIni (full all)).1).getD i 0))] rfl dv_info_5_map_size_some_1 (by rw [List.size_toArray, bcs_len]; simp only [List.length_set, List.length_cons, List.length_nil, Nat.zero_add]; omega) (by simp [bv, Value.oneCell']) (bcs ((((ol.set (4 * i) (BitVec.setWidth 8 ((((feed hIni (full all)).1).getD i 0) >>> 24))).set (4 * i + 1) (BitVec.setWidth 8 ((((feed hIni (full all)).1).getD i 0) >>> 16))).set (4 * i + 2) (BitVec.setWidth 8 ((((feed hIni (full all)).1).getD i 0) >>> 8))).set (4 * i + 3) (BitVec.setWidth 8 (((feed hIni (full all)).1).getD i 0)))).toArray (congrArg List.toArray (bcs_set _ _ _ (by (try simp only [List.length_set]); omega))) ?_
  clear F a; have Mo := M; clear M; intro a v F M hgr
  refine hK _ _ ?_
  clear hK K
  clear Mo hgr; try clear u
  replace M : Mm w v [⟨g4, (bcs ((((ol.set (4 * i) (BitVec.setWidth 8 ((((feed hIni (full all)).1).getD i 0) >>> 24))).set (4 * i + 1) (BitVec.setWidth 8 ((((feed hIni (full all)).1).getD i 0) >>> 16))).set (4 * i + 2) (BitVec.setWidth 8 ((((feed hIni (full all)).1).getD i 0) >>> 8))).set (4 * i + 3) (BitVec.setWidth 8 (((feed hIni (full all)).1).getD i 0)))).toArray, 24⟩, ⟨g3, (hcs ((feed hIni (full all)).1) (.slice A_32 ((feed hIni (full all)).2.length) k_32) (((x2 + BitVec.ofNat 64 8).toNat : Int))).toArray, 82⟩, ⟨g2, ((bcs (List.replicate 32 0)).toArray), 24⟩] := M
  refine wpList_nil ?_
  replace F : Fr 67 a [(0, .pointer (some p)), (2, .pointer (some ⟨g2, 0, none⟩)), (3, .pointer (some ⟨g3, 0, none⟩)), (4, .pointer (some ⟨g4, 0, none⟩)), (5, .int .i64 ((i : Nat) : Int)), (6, wv (((feed hIni (full all)).1).getD i 0)), (23, .bool false), (34, .agg ((wcs ((feed hIni (full all)).1)).toArray)), (35, .int .i64 ((i : Nat) : Int)), (36, .bool true)] := F.keep ⟨rfl, rfl, rfl, rfl, rfl, rfl, rfl, rfl, rfl, rfl, trivial⟩
  refine in_n ?_
  refine then_n ?_
  refine wp_region_lit ?_
  refine list_val F (wn rfl) rfl rfl (.int .i64 ((i + 1 : Nat) : Int)) (ex_bin .add _ _ _ _ rfl .i64 _ _ (F.e rfl) rfl _ (b_add ((w_i64 (by omega) (by omega)).trans (by omega)))) ?_; clear F a; intro a F
  refine list_val F (wn rfl) rfl rfl (.int .i64 ((i + 1 : Nat) : Int)) (ex_move _ rfl _ (F.e rfl)) ?_; clear F a; intro a F
  refine wpList_nil ?_
  replace F : Fr 67 a [(0, .pointer (some p)), (2, .pointer (some ⟨g2, 0, none⟩)), (3, .pointer (some ⟨g3, 0, none⟩)), (4, .pointer (some ⟨g4, 0, none⟩)), (5, .int .i64 ((i : Nat) : Int)), (6, wv (((feed hIni (full all)).1).getD i 0)), (23, .bool false), (34, .agg ((wcs ((feed hIni (full all)).1)).toArray)), (35, .int .i64 ((i + 1 : Nat) : Int)), (36, .bool true)] := F.keep ⟨rfl, rfl, rfl, rfl, rfl, rfl, rfl, rfl, rfl, rfl, trivial⟩
  refine then_n ?_
  exact ⟨8 - (i + 1), by omega, (i + 1), ((((ol.set (4 * i) (BitVec.setWidth 8 ((((feed hIni (full all)).1).getD i 0) >>> 24))).set (4 * i + 1) (BitVec.setWidth 8 ((((feed hIni (full all)).1).getD i 0) >>> 16))).set (4 * i + 2) (BitVec.setWidth 8 ((((feed hIni (full all)).1).getD i 0) >>> 8))).set (4 * i + 3) (BitVec.setWidth 8 (((feed hIni (full all)).1).getD i 0))), F.keep ⟨rfl, rfl, rfl, rfl, rfl, rfl, rfl, trivial⟩, (by refine M.pick' [0, 1, 2] _ ?_ (by decide); exact ⟨rfl, rfl, rfl, trivial⟩), (by omega), (by rw [hol]; exact out_set (feed_len rfl _) hin), (by omega)⟩
 refine wp_seq ?_
 refine wp_region_lit ?_
 refine list_val F (wn rfl) rfl rfl (.bool false) (ex_bin .lss _ _ _ _ rfl .i64 _ _ (F.e rfl) rfl _ (b_lss (decide_eq_false (by omega)))) ?_; clear F a; intro a F
 refine wpList_nil ?_
 replace F : Fr 67 a [(0, .pointer (some p)), (2, .pointer (some ⟨g2, 0, none⟩)), (3, .pointer (some ⟨g3, 0, none⟩)), (4, .pointer (some ⟨g4, 0, none⟩)), (23, .bool false), (34, .agg ((wcs ((feed hIni (full all)).1)).toArray)), (35, .int .i64 ((i : Nat) : Int)), (36, .bool false)] := F.keep ⟨rfl, rfl, rfl, rfl, rfl, rfl, rfl, rfl, trivial⟩
 refine then_n ?_
 refine wp_seq ?_
 refine wp_cond_false (F.e rfl) ?_
 refine wp_exit ?_
 refine then_x ?_
 refine then_x ?_
 refine in_hit ?_
 refine then_n ?_
 refine wp_seq ?_
 have hfin : ol = sha all := by rw [hol, show i = 8 by omega]; exact fill_all (by rw [outB_len, feed_len rfl])
 refine wp_region_lit ?_
 refine list_val F (wn rfl) rfl rfl (.agg ((bcs ol).toArray)) (ex_load _ _ rfl _ (F.e rfl) _ (lvr (cs := bcs ol) (by rw [bcs_len, show _ = 32 from hll]; exact dv_row_24_32) (M.at (i := 0) rfl))) ?_; clear F a; intro a F
 refine list_do (wn rfl) (fun K hK => ?_)
 refine ow_put F M rfl 24 _ _ rfl 2 _ ((bcs (List.replicate 32 0)).toArray) _ rfl (F.e rfl) ((bcs ol).toArray) (F.e rfl) (sz24 hll) (sz_eqb 32 rfl hll) (all_oneCell_toArray (bcs_one _)) ?_
 clear F a; have Mo := M; clear M; intro a u F M hgr
 refine hK _ _ ?_
 clear hK K
 clear Mo hgr; try clear v
 replace M : Mm w u [⟨g4, (bcs ol).toArray, 24⟩, ⟨g3, (hcs ((feed hIni (full all)).1) (.slice A_32 ((feed hIni (full all)).2.length) k_32) (((x2 + BitVec.ofNat 64 8).toNat : Int))).toArray, 82⟩, ⟨g2, (bcs ol).toArray, 24⟩] := M
 refine wpList_nil ?_
 replace F : Fr 67 a [(0, .pointer (some p)), (2, .pointer (some ⟨g2, 0, none⟩)), (3, .pointer (some ⟨g3, 0, none⟩)), (4, .pointer (some ⟨g4, 0, none⟩)), (23, .bool false), (34, .agg ((wcs ((feed hIni (full all)).1)).toArray)), (35, .int .i64 ((i : Nat) : Int)), (36, .bool false)] := F.keep ⟨rfl, rfl, rfl, rfl, rfl, rfl, rfl, rfl, trivial⟩
 refine then_n ?_
 refine wp_ret ?_
 rw [← hfin]
 exact ret_c1 (v := .agg ((bcs ol).toArray)) F rfl rfl (lvr (cs := bcs ol) (by rw [bcs_len, show _ = 32 from hll]; exact dv_row_24_32) (M.at (i := 2) rfl)) ⟨rfl, M.bel⟩
theorem dv_ent_31 : ent? Tryd.prog 31 = true := by kernel_rfl
theorem dv_sl_22_1 : sl? Tryd.prog 22 1 = true := by kernel_rfl
theorem dv_ent_35 : ent? Tryd.prog 35 = true := by kernel_rfl
set_option maxHeartbeats 4000000 in
set_option maxRecDepth 100000 in
theorem of_any (ls : List (List By)) (Ls : Option Addr) (n cl : Nat) (hn : n ≤ 1000000) (w : World) (hKt : At w ⟨0, 0, none⟩ (wcs kTab)) (hl : RowsB w Ls n ls) :
    Calls Tryd.prog 43 #[.slice Ls n cl] w fun e w' => e = .returned (.agg (bcs (sha ls.flatten)).toArray) ∧ Below w.heap.size w w' := by
 have h0 := kt_pos hKt
 refine calls_start Tryd.func43 rfl rfl rfl (fun a F => ?_)
 have M : Mm w w [] := Mm.nil w
 refine wp_seq ?_
 refine wp_region_lit ?_
 refine list_do (wn rfl) (fun K hK => ?_)
 refine ow_alloc F M rfl rfl 24 rfl (.agg (bcs (List.replicate 32 0)).toArray) z24 ((bcs (List.replicate 32 0)).toArray) rfl ?_
 clear F M a; intro a g2 v F M hb hg
 refine hK _ _ ?_
 clear hK K
 clear hb hg; try clear w
 refine wpList_nil ?_
 replace F : Fr 19 a [(0, .slice Ls n cl), (2, .pointer (some ⟨g2, 0, none⟩))] := F.keep ⟨rfl, rfl, trivial⟩
 refine then_n ?_
 refine wp_seq ?_
 refine wp_region_lit ?_
 refine list_do (wn rfl) (fun K hK => ?_)
 refine ow_call rfl rfl F 31 #[] (ex_call 31 _ _ rfl rfl dv_ent_31 _ (map0)) (new_all _) (fun e u hR => ?_)
 obtain ⟨g6, he, hg, hn, hb⟩ := hR
 have M1 := M.new ⟨g6, (hcs ((feed hIni []).1) (.slice none ((feed hIni []).2.length) 0) (((BitVec.ofNat 64 0).toNat : Int))).toArray, 82⟩ hb hg hn
 refine ⟨.pointer (some ⟨g6, 0, none⟩), he, ?_⟩; clear he F a; intro a F
 refine hK _ _ ?_
 clear hK K
 replace M := M.below hb; clear hb; try clear v
 replace M := M1; clear M1 hg hn
 refine list_val F (wn rfl) rfl rfl (.pointer (some ⟨g6, 0, none⟩)) (ex_assign _ rfl _ (F.e rfl)) ?_; clear F a; intro a F
 refine wpList_nil ?_
 replace F : Fr 19 a [(0, .slice Ls n cl), (2, .pointer (some ⟨g2, 0, none⟩)), (3, .pointer (some ⟨g6, 0, none⟩))] := F.keep ⟨rfl, rfl, rfl, trivial⟩
 refine then_n ?_
 refine wp_seq ?_
 refine wp_seq ?_
 refine wp_region_lit ?_
 refine list_val F (wn rfl) rfl rfl (.slice Ls n cl) (ex_move _ rfl _ (F.e rfl)) ?_; clear F a; intro a F
 refine list_val F (wn rfl) rfl rfl (.int .i64 ((n : Nat) : Int)) (ex_len _ _ rfl 1 dv_sl_22_1 _ _ _ (F.e rfl)) ?_; clear F a; intro a F
 refine list_val F (wn rfl) rfl rfl (.int .i64 0) (ex_move _ rfl _ rfl) ?_; clear F a; intro a F
 refine wpList_nil ?_
 replace F : Fr 19 a [(0, .slice Ls n cl), (2, .pointer (some ⟨g2, 0, none⟩)), (3, .pointer (some ⟨g6, 0, none⟩)), (7, .slice Ls n cl), (8, .int .i64 ((n : Nat) : Int)), (9, .int .i64 0)] := F.keep ⟨rfl, rfl, rfl, rfl, rfl, rfl, trivial⟩
 refine then_n ?_
 refine wp_block ?_
 refine wp_loopN (fun mq ar wr => ∃ (i : Nat), ∃ (A2 : Option Addr), ∃ (k2 : Nat), Fr 19 ar [(0, .slice Ls n cl), (2, .pointer (some ⟨g2, 0, none⟩)), (3, .pointer (some ⟨g6, 0, none⟩)), (7, .slice Ls n cl), (8, .int .i64 ((n : Nat) : Int)), (9, .int .i64 ((i : Nat) : Int))] ∧ Mm w wr [⟨g6, (hcs ((feed hIni (ls.take i).flatten).1) (.slice A2 ((feed hIni (ls.take i).flatten).2.length) k2) (((BitVec.ofNat 64 (ls.take i).flatten.length).toNat : Int))).toArray, 82⟩, ⟨g2, ((bcs (List.replicate 32 0)).toArray), 24⟩] ∧ OwB wr w.heap.size (.slice A2 ((feed hIni (ls.take i).flatten).2.length) k2) ((feed hIni (ls.take i).flatten).2) ∧ i ≤ n ∧ mq + i = n) n ?_ ?_
 ·
  exact ⟨0, none, 0, F.keep ⟨rfl, rfl, rfl, rfl, rfl, rfl, trivial⟩, M, (owB_new _ _), (Nat.zero_le _), (by omega)⟩
 clear F M a
 rintro mq a v ⟨i, A2, k2, F, M, O_x, hi, hq⟩; try clear u
 by_cases hin : i < n
 ·
  have hil : i < ls.length := by rw [hl.1]; exact hin
  obtain ⟨adl, hLs, hrow⟩ := hl.2 (by omega)
  subst hLs
  obtain ⟨B, m, c, hce, hrb, hmc⟩ := hrow i _ (List.getElem?_eq_getElem hil)
  refine wp_seq ?_
  refine wp_region_lit ?_
  refine list_val F (wn rfl) rfl rfl (.bool true) (ex_bin .lss _ _ _ _ rfl .i64 _ _ (F.e rfl) (F.e rfl) _ (b_lss (decide_eq_true (by omega)))) ?_; clear F a; intro a F
  refine wpList_nil ?_
  replace F : Fr 19 a [(0, .slice (some adl) n cl), (2, .pointer (some ⟨g2, 0, none⟩)), (3, .pointer (some ⟨g6, 0, none⟩)), (7, .slice (some adl) n cl), (8, .int .i64 ((n : Nat) : Int)), (9, .int .i64 ((i : Nat) : Int)), (10, .bool true)] := F.keep ⟨rfl, rfl, rfl, rfl, rfl, rfl, rfl, trivial⟩
  refine then_n ?_
  refine wp_seq ?_
  refine wp_cond_true (F.e rfl) ?_
  refine wp_skip ?_
  refine then_n ?_
  refine wp_seq ?_
  refine wp_block ?_
  refine wp_seq ?_
  refine wp_region_lit ?_
  refine list_val F (wn rfl) rfl rfl (.pointer (some (adl.add i))) (ex_ix _ _ _ rfl 1 dv_sl_22_1 adl _ _ (F.e rfl) .i64 _ (F.e rfl) i rfl (by omega) _ (congrArg _ (Nat.mul_one _))) ?_; clear F a; intro a F
  refine list_val F (wn rfl) rfl rfl (.slice B m c) (ex_load _ _ rfl _ (F.e rfl) _ (lv1 dv_one_23 (pw_cell_below M.bel hce))) ?_; clear F a; intro a F
  refine list_val F (wn rfl) rfl rfl (.slice B m c) (ex_assign _ rfl _ (F.e rfl)) ?_; clear F a; intro a F
  refine wpList_nil ?_
  replace F : Fr 19 a [(0, .slice (some adl) n cl), (2, .pointer (some ⟨g2, 0, none⟩)), (3, .pointer (some ⟨g6, 0, none⟩)), (5, .slice B m c), (7, .slice (some adl) n cl), (8, .int .i64 ((n : Nat) : Int)), (9, .int .i64 ((i : Nat) : Int)), (10, .bool true)] := F.keep ⟨rfl, rfl, rfl, rfl, rfl, rfl, rfl, rfl, trivial⟩
  refine then_n ?_
  refine wp_region_lit ?_
  refine list_val F (wn rfl) rfl rfl (.pointer (some ⟨g6, 0, none⟩)) (ex_move _ rfl _ (F.e rfl)) ?_; clear F a; intro a F
  refine list_val F (wn rfl) rfl rfl (.slice B m c) (ex_move _ rfl _ (F.e rfl)) ?_; clear F a; intro a F
  refine list_do (wn rfl) (fun K hK => ?_)
  have hL : RbA v B m c (ls[i]) g6 (.slice A2 ((feed hIni (ls.take i).flatten).2.length) k2) := ⟨hrb.below M.bel, hmc, fun hm ad e => ⟨by have := hrb.lt hm ad e; have := M.lo 0 _ rfl; simp only at this; omega, fun e2 => by have := hrb.lt hm ad e; have := (O_x.bound e2.symm).1; omega⟩⟩
  refine ow_call rfl rfl F 45 #[.pointer (some ⟨g6, 0, none⟩), .slice B m c] (ex_call 45 _ _ rfl rfl dv_ent_45 _ (map2 (F.e rfl) (F.e rfl))) (take_to ((ls.take i).flatten) ((ls.take (i + 1)).flatten) A2 k2 (BitVec.ofNat 64 (ls.take i).flatten.length) (BitVec.ofNat 64 (ls.take (i + 1)).flatten.length) (ls[i]) B m c g6 w.heap.size _ (hKt.below M.bel) h0 M.bel.size (M.lo 0 _ rfl) (M.blk 0 _ rfl) O_x hL (flat_take hil) (flat_num hil hrb.1)) (fun e u hR => ?_)
  obtain ⟨he, A_15, k_15, hn, O_n, hC⟩ := hR
  refine ⟨.tuple #[], he, ?_⟩; clear he F a; intro a F
  refine hK _ _ ?_
  clear hK K
  have M1 := M.chg (i := 0) rfl O_x rfl hC ((hcs ((feed hIni (ls.take (i + 1)).flatten).1) (.slice A_15 ((feed hIni (ls.take (i + 1)).flatten).2.length) k_15) (((BitVec.ofNat 64 (ls.take (i + 1)).flatten.length).toNat : Int))).toArray) hn
  replace M := M1; replace O_x := O_n; clear M1 hC hn hL
  replace M : Mm w u [⟨g6, (hcs ((feed hIni (ls.take (i + 1)).flatten).1) (.slice A_15 ((feed hIni (ls.take (i + 1)).flatten).2.length) k_15) (((BitVec.ofNat 64 (ls.take (i + 1)).flatten.length).toNat : Int))).toArray, 82⟩, ⟨g2, ((bcs (List.replicate 32 0)).toArray), 24⟩] := M; try clear v
  refine wpList_nil ?_
  replace F : Fr 19 a [(0, .slice (some adl) n cl), (2, .pointer (some ⟨g2, 0, none⟩)), (3, .pointer (some ⟨g6, 0, none⟩)), (5, .slice B m c), (7, .slice (some adl) n cl), (8, .int .i64 ((n : Nat) : Int)), (9, .int .i64 ((i : Nat) : Int)), (10, .bool true)] := F.keep ⟨rfl, rfl, rfl, rfl, rfl, rfl, rfl, rfl, trivial⟩
  refine in_n ?_
  refine then_n ?_
  refine wp_region_lit ?_
  refine list_val F (wn rfl) rfl rfl (.int .i64 ((i + 1 : Nat) : Int)) (ex_bin .add _ _ _ _ rfl .i64 _ _ (F.e rfl) rfl _ (b_add ((w_i64 (by omega) (by omega)).trans (by omega)))) ?_; clear F a; intro a F
  refine list_val F (wn rfl) rfl rfl (.int .i64 ((i + 1 : Nat) : Int)) (ex_move _ rfl _ (F.e rfl)) ?_; clear F a; intro a F
  refine wpList_nil ?_
  replace F : Fr 19 a [(0, .slice (some adl) n cl), (2, .pointer (some ⟨g2, 0, none⟩)), (3, .pointer (some ⟨g6, 0, none⟩)), (5, .slice B m c), (7, .slice (some adl) n cl), (8, .int .i64 ((n : Nat) : Int)), (9, .int .i64 ((i + 1 : Nat) : Int)), (10, .bool true)] := F.keep ⟨rfl, rfl, rfl, rfl, rfl, rfl, rfl, rfl, trivial⟩
  refine then_n ?_
  exact ⟨n - (i + 1), by omega, (i + 1), A_15, k_15, F.keep ⟨rfl, rfl, rfl, rfl, rfl, rfl, trivial⟩, (by refine M.pick' [0, 1] _ ?_ (by decide); exact ⟨rfl, rfl, trivial⟩), O_x, (by omega), (by omega)⟩
 have hfl : (ls.take i).flatten = ls.flatten := by rw [List.take_of_length_le (by rw [hl.1]; omega)]
 refine wp_seq ?_
 refine wp_region_lit ?_
 refine list_val F (wn rfl) rfl rfl (.bool false) (ex_bin .lss _ _ _ _ rfl .i64 _ _ (F.e rfl) (F.e rfl) _ (b_lss (decide_eq_false (by omega)))) ?_; clear F a; intro a F
 refine wpList_nil ?_
 replace F : Fr 19 a [(0, .slice Ls n cl), (2, .pointer (some ⟨g2, 0, none⟩)), (3, .pointer (some ⟨g6, 0, none⟩)), (7, .slice Ls n cl), (8, .int .i64 ((n : Nat) : Int)), (9, .int .i64 ((i : Nat) : Int)), (10, .bool false)] := F.keep ⟨rfl, rfl, rfl, rfl, rfl, rfl, rfl, trivial⟩
 refine then_n ?_
 refine wp_seq ?_
 refine wp_cond_false (F.e rfl) ?_
 refine wp_exit ?_
 refine then_x ?_
 refine then_x ?_
 refine in_hit ?_
 refine then_n ?_
 refine wp_seq ?_
 refine wp_region_lit ?_
 refine list_val F (wn rfl) rfl rfl (.pointer (some ⟨g6, 0, none⟩)) (ex_move _ rfl _ (F.e rfl)) ?_; clear F a; intro a F
 refine list_do (wn rfl) (fun K hK => ?_)
 refine ow_call rfl rfl F 35 #[.pointer (some ⟨g6, 0, none⟩)] (ex_call 35 _ _ rfl rfl dv_ent_35 _ (map1 (F.e rfl))) (sum_any (ls.take i).flatten A2 _ k2 ⟨g6, 0, none⟩ _ (hKt.below M.bel) (M.at (i := 0) rfl) O_x.rb.1) (fun e u hR => ?_)
 obtain ⟨he, hb⟩ := hR
 refine ⟨.agg ((bcs (sha (ls.take i).flatten)).toArray), he, ?_⟩; clear he F a; intro a F
 refine hK _ _ ?_
 clear hK K
 replace O_x := O_x.below hb
 replace M := M.below hb; clear hb; try clear v
 refine list_do (wn rfl) (fun K hK => ?_)
 refine ow_put F M rfl 24 _ _ rfl 1 _ ((bcs (List.replicate 32 0)).toArray) _ rfl (F.e rfl) ((bcs (sha (ls.take i).flatten)).toArray) (F.e rfl) (sz24 (sha_len _)) (sz_eqb 32 rfl (sha_len _)) (all_oneCell_toArray (bcs_one _)) ?_
 clear F a; have Mo := M; clear M; intro a v F M hgr
 refine hK _ _ ?_
 clear hK K
 replace O_x := O_x.grown (Mo.blk 1 _ rfl) (by show 5 ≠ 24; decide) hgr
 clear Mo hgr; try clear u
 replace M : Mm w v [⟨g6, (hcs ((feed hIni (ls.take i).flatten).1) (.slice A2 ((feed hIni (ls.take i).flatten).2.length) k2) (((BitVec.ofNat 64 (ls.take i).flatten.length).toNat : Int))).toArray, 82⟩, ⟨g2, (bcs (sha (ls.take i).flatten)).toArray, 24⟩] := M
 refine wpList_nil ?_
 replace F : Fr 19 a [(0, .slice Ls n cl), (2, .pointer (some ⟨g2, 0, none⟩)), (3, .pointer (some ⟨g6, 0, none⟩)), (7, .slice Ls n cl), (8, .int .i64 ((n : Nat) : Int)), (9, .int .i64 ((i : Nat) : Int)), (10, .bool false)] := F.keep ⟨rfl, rfl, rfl, rfl, rfl, rfl, rfl, trivial⟩
 refine then_n ?_
 refine wp_ret ?_
 rw [← hfl]
 exact ret_c1 (v := .agg ((bcs (sha (ls.take i).flatten)).toArray)) F rfl rfl (lvr (cs := bcs (sha (ls.take i).flatten)) (by rw [bcs_len, show _ = 32 from (sha_len _)]; exact dv_row_24_32) (M.at (i := 1) rfl)) ⟨rfl, M.bel⟩
theorem dv_ent_43 : ent? Tryd.prog 43 = true := by kernel_rfl
set_option maxHeartbeats 4000000 in
set_option maxRecDepth 100000 in
theorem sum_bytes (b : List By) (B : Option Addr) (n c : Nat) (w : World) (hKt : At w ⟨0, 0, none⟩ (wcs kTab)) (hB : Rb w B n b) (hc : n ≤ c) :
    Calls Tryd.prog 15 #[.slice B n c] w fun e w' => e = .returned (.agg (bcs (sha b)).toArray) ∧ Below w.heap.size w w' := by
 refine calls_start Tryd.func15 rfl rfl rfl (fun a F => ?_)
 have M : Mm w w [] := Mm.nil w
 refine wp_seq ?_
 refine wp_region_lit ?_
 refine list_do (wn rfl) (fun K hK => ?_)
 refine ow_alloc F M rfl rfl 24 rfl (.agg (bcs (List.replicate 32 0)).toArray) z24 ((bcs (List.replicate 32 0)).toArray) rfl ?_
 clear F M a; intro a g2 v F M hb hg
 refine hK _ _ ?_
 clear hK K
 clear hb hg; try clear w
 refine wpList_nil ?_
 replace F : Fr 6 a [(0, .slice B n c), (2, .pointer (some ⟨g2, 0, none⟩))] := F.keep ⟨rfl, rfl, trivial⟩
 refine then_n ?_
 refine wp_seq ?_
 refine wp_region_lit ?_
 refine list_val F (wn rfl) rfl rfl (.slice B n c) (ex_move _ rfl _ (F.e rfl)) ?_; clear F a; intro a F
 refine list_do (wn rfl) (fun K hK => ?_)
 refine ow_bslice F M rfl rfl 22 1 _ rfl #[(0, .slice B n c)] (parts1 (F.e rfl)) #[.slice B n c] 23 (bs22_1 B n c _) ?_
 clear F M a; intro a g4 u F M hb hg
 refine hK _ _ ?_
 clear hK K
 clear hb hg; try clear v
 refine list_do (wn rfl) (fun K hK => ?_)
 have hl := rows_one (M.cell (i := 0) rfl (j := 0) rfl) (hB.below M.bel) hc
 refine ow_call rfl rfl F 43 #[.slice (some ⟨g4, 0, none⟩) 1 1] (ex_call 43 _ _ rfl rfl dv_ent_43 _ (map1 (F.e rfl))) (of_any [b] _ 1 1 (by decide) _ (hKt.below M.bel) hl) (fun e v hR => ?_)
 obtain ⟨he, hb⟩ := hR
 rw [show ([b] : List (List By)).flatten = b by simp] at he
 refine ⟨.agg ((bcs (sha b)).toArray), he, ?_⟩; clear he F a; intro a F
 refine hK _ _ ?_
 clear hK K
 replace M := M.below hb; clear hb; try clear u
 clear hl
 refine list_do (wn rfl) (fun K hK => ?_)
 refine ow_put F M rfl 24 _ _ rfl 1 _ ((bcs (List.replicate 32 0)).toArray) _ rfl (F.e rfl) ((bcs (sha b)).toArray) (F.e rfl) (sz24 (sha_len _)) (sz_eqb 32 rfl (sha_len _)) (all_oneCell_toArray (bcs_one _)) ?_
 clear F a; have Mo := M; clear M; intro a u F M hgr
 refine hK _ _ ?_
 clear hK K
 clear Mo hgr; try clear v
 replace M : Mm w u [⟨g4, #[.slice B n c], 23⟩, ⟨g2, (bcs (sha b)).toArray, 24⟩] := M
 refine wpList_nil ?_
 replace F : Fr 6 a [(0, .slice B n c), (2, .pointer (some ⟨g2, 0, none⟩))] := F.keep ⟨rfl, rfl, trivial⟩
 refine then_n ?_
 refine wp_ret ?_
 exact ret_c1 (v := .agg ((bcs (sha b)).toArray)) F rfl rfl (lvr (cs := bcs (sha b)) (by rw [bcs_len, show _ = 32 from (sha_len _)]; exact dv_row_24_32) (M.at (i := 1) rfl)) ⟨rfl, M.bel⟩
end Go.Proofs.YtkppipeadibfkaaDoor
