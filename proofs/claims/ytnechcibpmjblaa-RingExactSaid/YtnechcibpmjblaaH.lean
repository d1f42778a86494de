/- The contracts of package ring in one form: rings that are read; posternlaw5.num and wakes. Conditions: the rings are read. -/
import Derived.Test.YtnechcibpmjblaaJ
namespace Go.Proofs.Ytnechcibpmjblaa
open Go.RowKit Go.Proofs.YtnechcibpmjblaaW.PrintWords KB
set_option linter.unusedVariables false
set_option linter.unusedSimpArgs false

/-- A ring's slice is read. -/
def RK (w : World) (A : Option Addr) (c : Nat) (r : Rg) : Prop := kKey.C w A r.keys.length r.keys ∧ r.keys.length ≤ c
theorem RK.below {w w1 : World} {A : Option Addr} {c : Nat} {r : Rg} (h : RK w A c r) (hb : Below w.heap.size w w1) : RK w1 A c r := ⟨Kd.C_below h.1 hb, h.2⟩
theorem RK.step {B : Nat} {w w1 : World} {A : Option Addr} {c : Nat} {r : Rg} (h : RK w A c r) (hb : Below w.heap.size w w1) : RK w1 A c r := h.below hb
theorem RK.nil (w : World) : RK w none 0 zRg := ⟨Kd.C_nil kKey w, Nat.le_refl _⟩
/-- A ring's slice is a row of one's own. -/
def RO (w : World) (A : Option Addr) (c : Nat) (r : Rg) : Prop := OwnKeys w 0 (.slice A r.keys.length c) r.keys
theorem RO.rk {w : World} {A : Option Addr} {c : Nat} {r : Rg} (h : RO w A c r) : RK w A c r := by
  obtain ⟨_, h2, h3⟩ := Kd.R_reads' h
  exact ⟨h3, h2⟩
theorem RO.below {w w1 : World} {A : Option Addr} {c : Nat} {r : Rg} (h : RO w A c r) (hb : Below w.heap.size w w1) : RO w1 A c r := Kd.R_below h hb
theorem RO.alloc {w : World} {A : Option Addr} {c : Nat} {r : Rg} (h : RO w A c r) (o : Obj) : RO (w.alloc o) A c r := Kd.R_alloc h o
theorem RO.set {w : World} {A : Option Addr} {c : Nat} {r : Rg} {g t : Nat} {cells : Array Value} (h : RO w A c r) (hb : w.heap[g]? = some (.cells cells t (0, 0))) (ht : 107 ≠ t) (j : Nat) (u : Value) : RO (w.setCell ⟨g, j, none⟩ u) A c r := own_set h hb ht j u
theorem RO.nil (w : World) : RO w none 0 zRg := nil_own w 0
/-- What is told of a ring. -/
def Tells (e : Ending) (w : World) (w' : World) (r : Rg) : Prop := ∃ A c, e = .returned (.agg #[.slice A r.keys.length c, .int .u64 r.next]) ∧ RO w' A c r ∧ Below w.heap.size w w'
def Tells2 (e : Ending) (w : World) (w' : World) (r : Rg) (n : Int) : Prop := ∃ A c, e = .returned (.tuple #[.agg #[.slice A r.keys.length c, .int .u64 r.next], .int .i64 n]) ∧ RO w' A c r ∧ Below w.heap.size w w'
theorem RingV.tells {w : World} {base : Nat} {v : Value} {r : Rg} (h : RingV w base v r) : ∃ A c, v = .agg #[.slice A r.keys.length c, .int .u64 r.next] ∧ RO w A c r := by
  obtain ⟨sl, rfl, hO⟩ := h
  obtain ⟨A, c, rfl⟩ := Kd.R_slice hO
  exact ⟨A, c, rfl, Kd.R_lower hO (Nat.zero_le _)⟩
theorem first_c (s : Bs 32) (w : World) : Calls Try.prog 10 #[.agg s.cs.toArray] w fun e w' => Tells e w w' (firstF s) :=
  (first_any s w).mono fun _ _ ⟨_, he, hv, hb⟩ => by
    obtain ⟨A, c, rfl, hk⟩ := hv.tells
    exact ⟨A, c, he, hk, hb⟩
theorem prune_c (r : Rg) (A : Option Addr) (c : Nat) (now : Int) (w : World) (h : RK w A c r) : Calls Try.prog 14 #[.agg #[.slice A r.keys.length c, .int .u64 r.next], .int .i64 now] w fun e w' => Tells e w w' (pruneF r now) :=
  (prune_any r.keys A c r.next now w h.1 h.2).mono fun _ _ ⟨_, he, hv, hb⟩ => by
    obtain ⟨A, c, rfl, hk⟩ := hv.tells
    exact ⟨A, c, he, hk, hb⟩
theorem rotate_c (r : Rg) (A : Option Addr) (c : Nat) (s : Bs 32) (u : Int) (w : World) (h : RK w A c r) (hn : 0 ≤ r.next) : Calls Try.prog 12 #[.agg #[.slice A r.keys.length c, .int .u64 r.next], .agg s.cs.toArray, .int .i64 u] w fun e w' => Tells2 e w w' (rotateF r s u).1 (rotateF r s u).2 :=
  (rotate_any r.keys A c r.next u s w h.1 h.2 hn).mono fun _ _ ⟨_, he, hv, hb⟩ => by
    obtain ⟨A, c, rfl, hk⟩ := hv.tells
    exact ⟨A, c, he, hk, hb⟩
theorem find_c (r : Rg) (A : Option Addr) (c : Nat) (kid : Int) (w : World) (h : RK w A c r) : Calls Try.prog 30 #[.agg #[.slice A r.keys.length c, .int .u64 r.next], .int .u64 kid] w fun e w' => e = .returned (.tuple #[.agg (findF kid r.keys r.next).arr, .bool (!decide (findF kid r.keys r.next = zKey))]) ∧ Below w.heap.size w w' :=
  find_any kid r.keys A c r.next w h.1 h.2
theorem cur_c (r : Rg) (A : Option Addr) (c : Nat) (w : World) (h : RK w A c r) : Calls Try.prog 29 #[.agg #[.slice A r.keys.length c, .int .u64 r.next]] w fun e w' => e = .returned (.tuple #[.agg (curF r.keys r.next).arr, .bool (!decide (curF r.keys r.next = zKey))]) ∧ Below w.heap.size w w' :=
  cur_any r.keys A c r.next w h.1 h.2
theorem num_any (n : Int) (w : World) : Calls Try.prog 22 #[.int .i64 n] w fun e w' => e = .returned (.int .i64 n) ∧ w = w' := by
  go_enter Try.func22, Try.ntmps22
  go_wp2
  go_ret
  exact ⟨rfl, rfl⟩
theorem fld69_0 (w : World) (n c : Nat) (A : Option Addr) (m : Int) : (Instr.field 69 (.agg #[.slice A n c, .int .u64 m]) 0).run Try.prog w = .ok (.slice A n c) w := by kernel_rfl
end Go.Proofs.Ytnechcibpmjblaa
