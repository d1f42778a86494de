/- Turns and lives: their cells, their kinds. No conditions. -/
import Derived.Test.YtnechcibpmjblaaH2
import Derived.Test.YtnechcibpmjblaaH3
import Derived.Test.YtnechcibpmjblaaP
namespace Go.Proofs.Ytnechcibpmjblaa
open Go.RowKit Go.Proofs.YtnechcibpmjblaaW.PrintWords KB
set_option linter.unusedVariables false
set_option linter.unusedSimpArgs false

structure Turn where
  act : Int
  sec : Bs 32
  at_ : Int
  kid : Int
deriving DecidableEq
def Turn.cs (t : Turn) : List Value := .int .i64 t.act :: (t.sec.cs ++ [.int .i64 t.at_, .int .u64 t.kid])
theorem Turn.cs_len (t : Turn) : t.cs.length = 35 := by simp [Turn.cs, Bs.cs_len]
theorem Turn.cs_one (t : Turn) : ∀ u ∈ t.cs, u.oneCell' = true := by
  intro u hu
  simp only [Turn.cs, List.mem_cons, List.mem_append, List.not_mem_nil, or_false] at hu
  rcases hu with rfl | hu | rfl | rfl
  · rfl
  · exact Bs.cs_one _ u hu
  · rfl
  · rfl
def Turn.arr (t : Turn) : Array Value := t.cs.toArray
theorem Turn.arr_eq (t : Turn) : t.arr = t.cs.toArray := rfl
theorem Turn.arr_size (t : Turn) : t.arr.size = 35 := by simp [Turn.arr, Turn.cs_len]
theorem Turn.arr_one (t : Turn) : t.arr.all (·.oneCell') = true := all_oneCell_toArray t.cs_one
theorem Turn.cs_0 (t : Turn) : t.cs[0]? = some (.int .i64 t.act) := rfl
theorem Turn.cs_33 (t : Turn) : t.cs[33]? = some (.int .i64 t.at_) := by
  have h : t.sec.cs.length = 32 := Bs.cs_len _
  rw [Turn.cs, List.getElem?_cons_succ, List.getElem?_append_right (by omega), h]
  rfl
theorem Turn.arr_0 (t : Turn) : t.arr[0]? = some (.int .i64 t.act) := by rw [Turn.arr_eq]; simpa using t.cs_0
theorem Turn.arr_33 (t : Turn) : t.arr[33]? = some (.int .i64 t.at_) := by rw [Turn.arr_eq]; simpa using t.cs_33
def kTurn : Kd Turn := kBlk Turn.cs 35 Turn.cs_len Turn.cs_one
def zTurn : Turn := ⟨0, zBs 32, 0, 0⟩
def rdT (ts : List Turn) (i : Int) : Turn := ts.getD i.toNat zTurn
/-- A life's cells: the first secret, and the slice of its turns. -/
def lifeCs (s : Bs 32) (sl : Value) : List Value := s.cs ++ [sl]
def lifeArr (s : Bs 32) (sl : Value) : Array Value := (lifeCs s sl).toArray
end Go.Proofs.Ytnechcibpmjblaa
