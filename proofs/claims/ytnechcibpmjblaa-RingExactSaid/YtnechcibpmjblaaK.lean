/- Keys of package ring: their cells, their making, their '=='. No conditions. -/
import Derived.Test.YtnechcibpmjblaaProg
import Derived.Test.YtnechcibpmjblaaKB
import Derived.Test.YtnechcibpmjblaaWEqStruct
import Derived.KernelRfl
namespace Go.Proofs.Ytnechcibpmjblaa
open Go.RowKit Go.Proofs.YtnechcibpmjblaaW.PrintWords KB

structure Key where
  kid : Int
  sec : Bs 32
  til : Int
deriving DecidableEq
def Key.cs (k : Key) : List Value := .int .u64 k.kid :: (k.sec.cs ++ [.int .i64 k.til])
theorem Key.cs_len (k : Key) : k.cs.length = 34 := by simp [Key.cs, Bs.cs_len]
theorem Key.cs_one (k : Key) : ∀ u ∈ k.cs, u.oneCell' = true := by
  intro u hu
  simp only [Key.cs, List.mem_cons, List.mem_append, List.not_mem_nil, or_false] at hu
  rcases hu with rfl | hu | rfl
  · rfl
  · exact Bs.cs_one _ u hu
  · rfl
def Key.arr (k : Key) : Array Value := k.cs.toArray
theorem Key.arr_eq (k : Key) : k.arr = k.cs.toArray := rfl
theorem Key.arr_size (k : Key) : k.arr.size = 34 := by simp [Key.arr, Key.cs_len]
theorem Key.arr_one (k : Key) : k.arr.all (·.oneCell') = true := all_oneCell_toArray k.cs_one
theorem Key.cs_0 (k : Key) : k.cs[0]? = some (.int .u64 k.kid) := rfl
theorem Key.cs_33 (k : Key) : k.cs[33]? = some (.int .i64 k.til) := by
  have h : k.sec.cs.length = 32 := Bs.cs_len _
  rw [Key.cs, List.getElem?_cons_succ, List.getElem?_append_right (by omega), h]
  rfl
theorem Key.arr_0 (k : Key) : k.arr[0]? = some (.int .u64 k.kid) := by rw [Key.arr_eq]; simpa using k.cs_0
theorem Key.arr_33 (k : Key) : k.arr[33]? = some (.int .i64 k.til) := by rw [Key.arr_eq]; simpa using k.cs_33
def kKey : Kd Key := kBlk Key.cs 34 Key.cs_len Key.cs_one
def zBs (n : Nat) : Bs n := ⟨List.replicate n 0, List.length_replicate⟩
def zKey : Key := ⟨0, zBs 32, 0⟩

theorem zero107 : ∀ w, (zeroValue 107).run Try.prog w = .ok (.agg zKey.arr) w := Try.zeroValue107
theorem info107 : (Try.prog.info? 107).map (·.size) = some 34 := by kernel_rfl
theorem info107z : (Try.prog.info? 107).map (fun i => (i.zero, i.size, i.bytes)) = some (some (.agg zKey.arr), 34, 48) := by kernel_rfl
theorem info70 : (Try.prog.info? 70).map (·.size) = some 32 := by kernel_rfl
theorem build107_0 (w : World) : (Instr.build 107 #[]).run Try.prog w = .ok (.agg zKey.arr) w := by kernel_rfl
theorem b107a (n : Int) (x0 x1 x2 x3 x4 x5 x6 x7 x8 x9 x10 x11 x12 x13 x14 x15 x16 x17 x18 x19 x20 x21 x22 x23 x24 x25 x26 x27 x28 x29 x30 x31 : Int) (w : World) : (Instr.build 107 #[(0, .int .u64 n), (1, .agg #[.int .u8 x0, .int .u8 x1, .int .u8 x2, .int .u8 x3, .int .u8 x4, .int .u8 x5, .int .u8 x6, .int .u8 x7, .int .u8 x8, .int .u8 x9, .int .u8 x10, .int .u8 x11, .int .u8 x12, .int .u8 x13, .int .u8 x14, .int .u8 x15, .int .u8 x16, .int .u8 x17, .int .u8 x18, .int .u8 x19, .int .u8 x20, .int .u8 x21, .int .u8 x22, .int .u8 x23, .int .u8 x24, .int .u8 x25, .int .u8 x26, .int .u8 x27, .int .u8 x28, .int .u8 x29, .int .u8 x30, .int .u8 x31])]).run Try.prog w = .ok (.agg #[.int .u64 n, .int .u8 x0, .int .u8 x1, .int .u8 x2, .int .u8 x3, .int .u8 x4, .int .u8 x5, .int .u8 x6, .int .u8 x7, .int .u8 x8, .int .u8 x9, .int .u8 x10, .int .u8 x11, .int .u8 x12, .int .u8 x13, .int .u8 x14, .int .u8 x15, .int .u8 x16, .int .u8 x17, .int .u8 x18, .int .u8 x19, .int .u8 x20, .int .u8 x21, .int .u8 x22, .int .u8 x23, .int .u8 x24, .int .u8 x25, .int .u8 x26, .int .u8 x27, .int .u8 x28, .int .u8 x29, .int .u8 x30, .int .u8 x31, .int .i64 0]) w := by kernel_rfl
theorem b55 (n t : Int) (x0 x1 x2 x3 x4 x5 x6 x7 x8 x9 x10 x11 x12 x13 x14 x15 x16 x17 x18 x19 x20 x21 x22 x23 x24 x25 x26 x27 x28 x29 x30 x31 : Int) (w : World) : (Instr.buildSlice 55 1 #[(0, .agg #[.int .u64 n, .int .u8 x0, .int .u8 x1, .int .u8 x2, .int .u8 x3, .int .u8 x4, .int .u8 x5, .int .u8 x6, .int .u8 x7, .int .u8 x8, .int .u8 x9, .int .u8 x10, .int .u8 x11, .int .u8 x12, .int .u8 x13, .int .u8 x14, .int .u8 x15, .int .u8 x16, .int .u8 x17, .int .u8 x18, .int .u8 x19, .int .u8 x20, .int .u8 x21, .int .u8 x22, .int .u8 x23, .int .u8 x24, .int .u8 x25, .int .u8 x26, .int .u8 x27, .int .u8 x28, .int .u8 x29, .int .u8 x30, .int .u8 x31, .int .i64 t])]).run Try.prog w = .ok (.slice (some ⟨w.heap.size, 0, none⟩) 1 1) (w.alloc (.cells #[.int .u64 n, .int .u8 x0, .int .u8 x1, .int .u8 x2, .int .u8 x3, .int .u8 x4, .int .u8 x5, .int .u8 x6, .int .u8 x7, .int .u8 x8, .int .u8 x9, .int .u8 x10, .int .u8 x11, .int .u8 x12, .int .u8 x13, .int .u8 x14, .int .u8 x15, .int .u8 x16, .int .u8 x17, .int .u8 x18, .int .u8 x19, .int .u8 x20, .int .u8 x21, .int .u8 x22, .int .u8 x23, .int .u8 x24, .int .u8 x25, .int .u8 x26, .int .u8 x27, .int .u8 x28, .int .u8 x29, .int .u8 x30, .int .u8 x31, .int .i64 t] 107)) := by kernel_rfl
theorem build107 (n : Int) (s : Bs 32) (w : World) : (Instr.build 107 #[(0, .int .u64 n), (1, .agg s.cs.toArray)]).run Try.prog w = .ok (.agg (Key.mk n s 0).arr) w := by
  obtain ⟨l, hl⟩ := s
  match l, hl with
  | [x0, x1, x2, x3, x4, x5, x6, x7, x8, x9, x10, x11, x12, x13, x14, x15, x16, x17, x18, x19, x20, x21, x22, x23, x24, x25, x26, x27, x28, x29, x30, x31], _ => exact b107a n x0 x1 x2 x3 x4 x5 x6 x7 x8 x9 x10 x11 x12 x13 x14 x15 x16 x17 x18 x19 x20 x21 x22 x23 x24 x25 x26 x27 x28 x29 x30 x31 w
theorem newKeys (k : Key) (w : World) : (Instr.buildSlice 55 1 #[(0, .agg k.arr)]).run Try.prog w = .ok (.slice (some ⟨w.heap.size, 0, none⟩) 1 1) (w.alloc (.cells k.arr 107)) := by
  obtain ⟨n, ⟨l, hl⟩, t⟩ := k
  match l, hl with
  | [x0, x1, x2, x3, x4, x5, x6, x7, x8, x9, x10, x11, x12, x13, x14, x15, x16, x17, x18, x19, x20, x21, x22, x23, x24, x25, x26, x27, x28, x29, x30, x31], _ => exact b55 n t x0 x1 x2 x3 x4 x5 x6 x7 x8 x9 x10 x11 x12 x13 x14 x15 x16 x17 x18 x19 x20 x21 x22 x23 x24 x25 x26 x27 x28 x29 x30 x31 w
theorem noKeys (w : World) : (Instr.buildSlice 55 0 #[]).run Try.prog w = .ok (.slice (some ⟨w.heap.size, 0, none⟩) 0 0) (w.alloc (.cells #[] 107)) := by kernel_rfl
/-- '==' of keys. -/
theorem eqKey (a b : Key) (w : World) : (Op.equalIn 10000 107 (.agg a.arr) (.agg b.arr)).run Try.prog w = .ok (decide (a = b)) w := by
  have h1 : ∀ k : Key, k.arr.extract 1 (1 + 32) = k.sec.cs.toArray := by
    intro k
    rw [Key.arr_eq, List.extract_toArray]
    congr 1
    show ((Value.int .u64 k.kid :: (k.sec.cs ++ [Value.int .i64 k.til])).drop 1).take (1 + 32 - 1) = k.sec.cs
    rw [List.drop_succ_cons, List.drop_zero]
    exact List.take_left' (Bs.cs_len _)
  have p0 : ∀ k : Key, (part 67 k.arr 0).run Try.prog w = .ok (.int .u64 k.kid) w := fun k => run_part_plain w (by kernel_rfl) k.arr_0
  have p2 : ∀ k : Key, (part 2 k.arr 33).run Try.prog w = .ok (.int .i64 k.til) w := fun k => run_part_plain w (by kernel_rfl) k.arr_33
  have p1 : ∀ k : Key, (part 70 k.arr 1).run Try.prog w = .ok (.agg k.sec.cs.toArray) w := by
    intro k
    have hs : (sizeOf 70).run Try.prog w = .ok 32 w := by kernel_rfl
    have ha : (isAgg 70).run Try.prog w = .ok true w := by kernel_rfl
    unfold part
    simp only [Sem.run_bind, ha, hs, Result.andThen_ok, if_true, Sem.run_pure, h1]
  have e : decide (a = b) = ((a.kid == b.kid) && (decide (a.sec = b.sec) && (a.til == b.til))) := by
    rw [Bool.eq_iff_iff]
    obtain ⟨ak, sa, at'⟩ := a
    obtain ⟨bk, sb, bt⟩ := b
    simp only [decide_eq_true_iff, Bool.and_eq_true, beq_iff_eq, Key.mk.injEq]
  rw [e]
  refine eqA_of (d := 9999) Try.underlying107 (by kernel_rfl) ?_
  exact eqf_cons rfl (p0 a) (p0 b) (run_equalIn_int w 9998 67 _ _ _ _ Try.underlying67) (eqf_cons rfl (p1 a) (p1 b) (run_equalIn_bytes 9997 _ _ Try.underlying70 Try.underlying5 (by kernel_rfl) (by kernel_rfl) w)
    (eqf_last rfl (p2 a) (p2 b) (run_equalIn_int w 9998 2 _ _ _ _ Try.underlying2)))
theorem eqlKey (a b : Key) (w : World) : (binOp .eql 107 (.agg a.arr) (.agg b.arr)).run Try.prog w = .ok (.bool (decide (a = b))) w := by
  rw [run_eql_struct, eqKey]; rfl
theorem neqKey (a b : Key) (w : World) : (binOp .neq 107 (.agg a.arr) (.agg b.arr)).run Try.prog w = .ok (.bool (!decide (a = b))) w := by
  rw [run_neq_struct, eqKey]; rfl

def rdK (ks : List Key) (i : Int) : Key := ks.getD i.toNat zKey
theorem at_Key {w : World} {A : Option Addr} {n : Nat} {ks : List Key} (h : kKey.C w A n ks) (i : Int) (h0 : 0 ≤ i) (h1 : i < n) :
    ∃ ad, A = some ad ∧ At w (ad.add (i.toNat * 34)) (rdK ks i).cs ∧ w.cell? (ad.add (i.toNat * 34)) = some (.int .u64 (rdK ks i).kid) ∧ w.cell? ⟨(ad.add (i.toNat * 34)).block, (ad.add (i.toNat * 34)).off + 33, none⟩ = some (.int .i64 (rdK ks i).til) := by
  obtain ⟨ad, e, hc⟩ := kBlk_at (z := zKey) h i h0 h1
  refine ⟨ad, e, hc, ?_, ?_⟩
  · have := hc 0 _ (Key.cs_0 _)
    rwa [Addr.add_add] at this
  · rw [← add_field _ _ 33 (by omega)]
    have := hc 33 _ (Key.cs_33 _)
    rw [Addr.add_add] at this
    exact this

section
variable {ops : Array Oper} {rest : List Oper} {op : Oper} {a : Act} {w : World} {Q : Exit → Act → World → Prop}
/-- A key, loaded whole. -/
theorem load_key (hgd : op.guard = none) (x : Operand) (ho : op.op = .load 107 x) (p : Addr) (hx : a.eval x = .pointer (some p)) (k : Key) (hc : At w p k.cs)
    (h : wpList Try.prog ops Q rest (a.put op.dst (.agg k.arr)) w) : wpList Try.prog ops Q (op :: rest) a w :=
  wpList_load_at hgd 107 x ho p hx k.cs _ hc Try.underlying107 rfl (by rw [info107, Key.cs_len]) h
/-- A key's fresh variable. -/
theorem new_key (hgd : op.guard = none) (x y : Operand) (ho : op.op = .store 107 x y) (k0 k : Key) (hx : a.eval x = .pointer (some ⟨w.heap.size, 0, none⟩)) (hy : a.eval y = .agg k.arr)
    (h : wpList Try.prog ops Q rest (a.put op.dst undef) (w.alloc (.cells k.arr 107))) : wpList Try.prog ops Q (op :: rest) a (w.alloc (.cells k0.arr 107)) :=
  wpList_store_new hgd 107 x y ho k0.arr k.arr hx hy (by rw [info107, Key.arr_size]) (by rw [Key.arr_size, Key.arr_size]) k.arr_one h
theorem store_key (hgd : op.guard = none) (x y : Operand) (ho : op.op = .store 107 x y) (g : Nat) (k0 k : Key) (hb : w.heap[g]? = some (.cells k0.arr 107 (0, 0))) (hx : a.eval x = .pointer (some ⟨g, 0, none⟩)) (hy : a.eval y = .agg k.arr)
    (h : ∀ w1, w1.heap[g]? = some (.cells k.arr 107 (0, 0)) → w.grownBy w1 (some g) → w.heap.size = w1.heap.size → wpList Try.prog ops Q rest (a.put op.dst undef) w1) : wpList Try.prog ops Q (op :: rest) a w :=
  wpList_put_row hgd 107 x y ho g 107 k0.arr k.arr hb hx hy (by rw [info107, Key.arr_size]) (by rw [Key.arr_size, Key.arr_size]) k.arr_one h
theorem wp_store_key {K : Act → World → Prop} (x y : Operand) (ho : op.op = .store 107 x y) (g : Nat) (k0 k : Key) (hb : w.heap[g]? = some (.cells k0.arr 107 (0, 0))) (hx : a.eval x = .pointer (some ⟨g, 0, none⟩)) (hy : a.eval y = .agg k.arr)
    (h : ∀ w1, w1.heap[g]? = some (.cells k.arr 107 (0, 0)) → w.grownBy w1 (some g) → w.heap.size = w1.heap.size → K (a.put op.dst undef) w1) : op.wp Try.prog a w K Q :=
  wp_put_row 107 x y ho g 107 k0.arr k.arr hb hx hy (by rw [info107, Key.arr_size]) (by rw [Key.arr_size, Key.arr_size]) k.arr_one h
theorem yields_key {S : World → Prop} (hw : Region.wanted op (yielded ops a.tmps) = true) (x : Operand) (ho : op.op = .load 107 x) (p : Addr) (hx : a.eval x = .pointer (some p)) (k : Key) (hS : ∀ w, S w → At w p k.cs) :
    YieldsIf Try.prog ops S op (.agg k.arr) a :=
  yieldsIf_load_at hw 107 x ho p hx k.cs _ hS Try.underlying107 rfl (by rw [info107, Key.cs_len])
end
theorem at_var {w : World} {b : Nat} {k : Key} {t : TypeId} {fr : Nat × Nat} (hb : w.heap[b]? = some (.cells k.arr t fr)) : At w ⟨b, 0, none⟩ k.cs := at_block hb
end Go.Proofs.Ytnechcibpmjblaa
