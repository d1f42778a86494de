/- Turns and lives: their cells, their kinds. No conditions. -/
import Derived.Test.YtnechcibpmjblaaH2
import Derived.Test.YtnechcibpmjblaaH3
import Derived.Test.YtnechcibpmjblaaP
namespace Go.Proofs.Ytnechcibpmjblaa
open Go.RowKit Go.Proofs.YtnechcibpmjblaaW.PrintWords KB
set_option linter.unusedVariables false
set_option linter.unusedSimpArgs false

structure Turn where
  act : Int
  sec : Bs 32
  at_ : Int
  kid : Int
deriving DecidableEq
def Turn.cs (t : Turn) : List Value := .int .i64 t.act :: (t.sec.cs ++ [.int .i64 t.at_, .int .u64 t.kid])
theorem Turn.cs_len (t : Turn) : t.cs.length = 35 := by simp [Turn.cs, Bs.cs_len]
theorem Turn.cs_one (t : Turn) : ∀ u ∈ t.cs, u.oneCell' = true := by
  intro u hu
  simp only [Turn.cs, List.mem_cons, List.mem_append, List.not_mem_nil, or_false] at hu
  rcases hu with rfl | hu | rfl | rfl
  · rfl
  · exact Bs.cs_one _ u hu
  · rfl
  · rfl
def Turn.arr (t : Turn) : Array Value := t.cs.toArray
theorem Turn.arr_eq (t : Turn) : t.arr = t.cs.toArray := rfl
theorem Turn.arr_size (t : Turn) : t.arr.size = 35 := by simp [Turn.arr, Turn.cs_len]
theorem Turn.arr_one (t : Turn) : t.arr.all (·.oneCell') = true := all_oneCell_toArray t.cs_one
theorem Turn.cs_0 (t : Turn) : t.cs[0]? = some (.int .i64 t.act) := rfl
theorem Turn.cs_33 (t : Turn) : t.cs[33]? = some (.int .i64 t.at_) := by
  have h : t.sec.cs.length = 32 := Bs.cs_len _
  rw [Turn.cs, List.getElem?_cons_succ, List.getElem?_append_right (by omega), h]
  rfl
theorem Turn.cs_34 (t : Turn) : t.cs[34]? = some (.int .u64 t.kid) := by
  have h : t.sec.cs.length = 32 := Bs.cs_len _
  rw [Turn.cs, List.getElem?_cons_succ, List.getElem?_append_right (by omega), h]
  rfl
theorem Turn.arr_0 (t : Turn) : t.arr[0]? = some (.int .i64 t.act) := by rw [Turn.arr_eq]; simpa using t.cs_0
theorem Turn.arr_33 (t : Turn) : t.arr[33]? = some (.int .i64 t.at_) := by rw [Turn.arr_eq]; simpa using t.cs_33
theorem Turn.arr_34 (t : Turn) : t.arr[34]? = some (.int .u64 t.kid) := by rw [Turn.arr_eq]; simpa using t.cs_34
def kTurn : Kd Turn := kBlk Turn.cs 35 Turn.cs_len Turn.cs_one
def zTurn : Turn := ⟨0, zBs 32, 0, 0⟩
theorem zero99 : ∀ w, (zeroValue 99).run Try.prog w = .ok (.agg zTurn.arr) w := Try.zeroValue99
theorem info99 : (Try.prog.info? 99).map (·.size) = some 35 := by kernel_rfl
theorem exec_load99 {op : Oper} {ρ : Operand → Value} {w : World} (x : Operand) (ho : op.op = .load 99 x) (p : Addr) (hx : ρ x = .pointer (some p)) (k : Turn) (hc : At w p k.cs) : (execOp ρ op).run Try.prog w = .ok (.value (.agg k.arr)) w :=
  exec_load 99 x ho p hx k.cs _ hc Try.underlying99 rfl (by rw [info99, Turn.cs_len])
theorem new_turn {ops : Array Oper} {rest : List Oper} {op : Oper} {a : Act} {w : World} {Q : Exit → Act → World → Prop} (hgd : op.guard = none) (x y : Operand) (ho : op.op = .store 99 x y) (k0 k : Turn) (hx : a.eval x = .pointer (some ⟨w.heap.size, 0, none⟩)) (hy : a.eval y = .agg k.arr)
    (h : wpList Try.prog ops Q rest (a.put op.dst undef) (w.alloc (.cells k.arr 99))) : wpList Try.prog ops Q (op :: rest) a (w.alloc (.cells k0.arr 99)) :=
  wpList_store_new hgd 99 x y ho k0.arr k.arr hx hy (by rw [info99, Turn.arr_size]) (by rw [Turn.arr_size, Turn.arr_size]) k.arr_one h
theorem turn_sec {w : World} {p : Addr} {k : Turn} (h : At w p k.cs) : At w (p.add 1) k.sec.cs := fun j u hu => by
  rw [Addr.add_add]
  refine h (1 + j) u ?_
  have hj : j < k.sec.cs.length := (List.getElem?_eq_some_iff.1 hu).1
  rw [Nat.add_comm]
  show (k.sec.cs ++ [Value.int .i64 k.at_, Value.int .u64 k.kid])[j]? = some u
  rw [List.getElem?_append_left hj]
  exact hu
def rdT (ts : List Turn) (i : Int) : Turn := ts.getD i.toNat zTurn
theorem at_Turn {w : World} {A : Option Addr} {n : Nat} {ts : List Turn} (h : kTurn.C w A n ts) (i : Int) (h0 : 0 ≤ i) (h1 : i < n) :
    ∃ ad, A = some ad ∧ At w (ad.add (i.toNat * 35)) (rdT ts i).cs ∧ w.cell? (ad.add (i.toNat * 35)) = some (.int .i64 (rdT ts i).act)
      ∧ w.cell? ⟨(ad.add (i.toNat * 35)).block, (ad.add (i.toNat * 35)).off + 33, none⟩ = some (.int .i64 (rdT ts i).at_) ∧ w.cell? ⟨(ad.add (i.toNat * 35)).block, (ad.add (i.toNat * 35)).off + 34, none⟩ = some (.int .u64 (rdT ts i).kid) := by
  obtain ⟨ad, e, hc⟩ := kBlk_at (z := zTurn) h i h0 h1
  refine ⟨ad, e, hc, ?_, ?_, ?_⟩
  · have := hc 0 _ (Turn.cs_0 _)
    rwa [Addr.add_add] at this
  · rw [← add_field _ _ 33 (by omega)]
    have := hc 33 _ (Turn.cs_33 _)
    rw [Addr.add_add] at this
    exact this
  · rw [← add_field _ _ 34 (by omega)]
    have := hc 34 _ (Turn.cs_34 _)
    rw [Addr.add_add] at this
    exact this
/-- A life's cells: the first secret, and the slice of its turns. -/
def lifeCs (s : Bs 32) (sl : Value) : List Value := s.cs ++ [sl]
def lifeArr (s : Bs 32) (sl : Value) : Array Value := (lifeCs s sl).toArray
theorem life_len (s : Bs 32) (sl : Value) : (lifeCs s sl).length = 33 := by simp [lifeCs, Bs.cs_len]
theorem life_32 (s : Bs 32) (sl : Value) : (lifeArr s sl)[32]? = some sl := by
  have h : s.cs.length = 32 := Bs.cs_len _
  unfold lifeArr
  rw [List.getElem?_toArray]
  unfold lifeCs
  rw [List.getElem?_append_right (by omega), h]
  rfl
theorem life_sec {w : World} {p : Addr} {s : Bs 32} {sl : Value} (h : At w p (lifeCs s sl)) : At w p s.cs := fun j u hu => h j u (by
  unfold lifeCs
  rw [List.getElem?_append_left (List.getElem?_eq_some_iff.1 hu).1]
  exact hu)
theorem info94 : (Try.prog.info? 94).map (·.size) = some 33 := by kernel_rfl
end Go.Proofs.Ytnechcibpmjblaa
