/- The types of package revoke and of its laws: an entry (Rv: 48; 35 likewise), a step (St: 29), an ID (27). No conditions but those of each lemma. -/
import Derived.Test.YtnjbjjmoglogeaaGreatRO
import Derived.Test.YtnjbjjmoglogeaaGreatProg
import Derived.Test.YtnjbjjmoglogeaaGreatWEqStruct
import Derived.KernelRfl
namespace Go.Proofs.YtnjbjjmoglogeaaGreat
open Go.RowKit Go.Proofs.YtnjbjjmoglogeaaGreatW.PrintWords KB WG RO
set_option linter.unusedVariables false
set_option linter.unusedSimpArgs false
set_option linter.unnecessarySimpa false
/-- A row of n bytes. -/
def Bs (n : Nat) : Type := {l : List (BitVec 8) // l.length = n}
instance (n : Nat) : DecidableEq (Bs n) := inferInstanceAs (DecidableEq {l : List (BitVec 8) // l.length = n})
def Bs.i {n : Nat} (b : Bs n) : KB.Bs n := ⟨b.1.map (fun x => (x.toNat : Int)), by rw [List.length_map]; exact b.2⟩
def Bs.cs {n : Nat} (b : Bs n) : List Value := b.i.cs
theorem Bs.cs_len {n : Nat} (b : Bs n) : b.cs.length = n := KB.Bs.cs_len _
theorem Bs.cs_one {n : Nat} (b : Bs n) : ∀ u ∈ b.cs, u.oneCell' = true := KB.Bs.cs_one _
theorem Bs.i_inj {n : Nat} {a b : Bs n} : a.i = b.i ↔ a = b := by
  refine ⟨fun h => Subtype.ext ?_, fun h => by rw [h]⟩
  have h := congrArg Subtype.val h
  exact (List.map_inj_right (fun x y e => BitVec.eq_of_toNat_eq (by have e : (x.toNat : Int) = y.toNat := e; omega))).1 h
def zBs (n : Nat) : Bs n := ⟨List.replicate n 0, by simp⟩
/-- A row of bytes as a number: the first is the highest. -/
def num : List (BitVec 8) → Nat
  | [] => 0
  | x :: l => x.toNat * 256 ^ l.length + num l
theorem num_lt : ∀ l : List (BitVec 8), num l < 256 ^ l.length
  | [] => by simp [num]
  | x :: l => by
    have h := num_lt l
    have hx := x.isLt
    simp only [num, List.length_cons, Nat.pow_succ]
    have : x.toNat * 256 ^ l.length ≤ 255 * 256 ^ l.length := Nat.mul_le_mul_right _ (by omega)
    omega
theorem num_inj : ∀ {a b : List (BitVec 8)}, a.length = b.length → num a = num b → a = b
  | [], [], _, _ => rfl
  | [], _ :: _, h, _ => by simp at h
  | _ :: _, [], h, _ => by simp at h
  | x :: a, y :: b, hl, h => by
    have hl2 : a.length = b.length := by simpa using hl
    simp only [num, hl2] at h
    have h1 := num_lt a
    have h2 := num_lt b
    rw [hl2] at h1
    generalize 256 ^ b.length = p at *
    have e : x.toNat = y.toNat := by
      rcases Nat.lt_trichotomy x.toNat y.toNat with c | c | c
      · have : (x.toNat + 1) * p ≤ y.toNat * p := Nat.mul_le_mul_right _ c
        rw [Nat.add_mul, Nat.one_mul] at this; omega
      · exact c
      · have : (y.toNat + 1) * p ≤ x.toNat * p := Nat.mul_le_mul_right _ c
        rw [Nat.add_mul, Nat.one_mul] at this; omega
    rw [e] at h
    rw [BitVec.eq_of_toNat_eq e, num_inj hl2 (by omega)]
def u8 (x : BitVec 8) : UInt8 := UInt8.ofBitVec x
theorem u8_lt (x y : BitVec 8) : u8 x < u8 y ↔ x.toNat < y.toNat := Iff.rfl
theorem cmp_num : ∀ {a b : List (BitVec 8)}, a.length = b.length → (Lib.compareBytes (a.map u8) (b.map u8) < 0 ↔ num a < num b)
  | [], [], _ => by simp [Lib.compareBytes, num]
  | [], _ :: _, h => by simp at h
  | _ :: _, [], h => by simp at h
  | x :: a, y :: b, hl => by
    have hl2 : a.length = b.length := by simpa using hl
    have ih := cmp_num hl2
    have h1 := num_lt a
    have h2 := num_lt b
    rw [hl2] at h1
    simp only [List.map_cons, Lib.compareBytes, num, hl2, u8_lt]
    generalize 256 ^ b.length = p at *
    by_cases c : x.toNat < y.toNat
    · have : (x.toNat + 1) * p ≤ y.toNat * p := Nat.mul_le_mul_right _ c
      rw [Nat.add_mul, Nat.one_mul] at this
      rw [if_pos c]
      constructor
      · intro _; omega
      · intro _; decide
    · rw [if_neg c]
      by_cases c2 : y.toNat < x.toNat
      · have : (y.toNat + 1) * p ≤ x.toNat * p := Nat.mul_le_mul_right _ c2
        rw [Nat.add_mul, Nat.one_mul] at this
        rw [if_pos c2]
        constructor
        · intro h; exact absurd h (by decide)
        · intro _; omega
      · rw [if_neg c2, ih, show x.toNat = y.toNat by omega]
        omega
/-! ### Reading an array of bytes: whole, '==' -/
theorem row69 : row? Tryz.prog 69 16 = true := by kernel_rfl
theorem lrow69 (x : Bs 16) {w : World} {p : Addr} (h : At w p x.cs) : (loadVar 69 p).run Tryz.prog w = .ok (.agg x.cs.toArray) w := lvr (by rw [Bs.cs_len]; exact row69) h
theorem un69 : Tryz.prog.underlying 69 = some (.array 16 5) := by kernel_rfl
theorem un5 : Tryz.prog.underlying 5 = some (.int .u8) := by kernel_rfl
theorem run_eq69 (a b : Bs 16) (w : World) : (binOp .eql 69 (.agg a.cs.toArray) (.agg b.cs.toArray)).run Tryz.prog w = .ok (.bool (decide (a = b))) w := by
  have h : (Op.equal 69 (.agg a.cs.toArray) (.agg b.cs.toArray)).run Tryz.prog w = .ok (decide (a = b)) w := by
    have h := run_equalIn_bytes (P := Tryz.prog) 9998 a.i b.i un69 un5 (by kernel_rfl) (by kernel_rfl) w
    rw [show decide (a.i = b.i) = decide (a = b) from decide_eq_decide.2 Bs.i_inj] at h
    exact h
  unfold binOp
  simp only [Sem.run_bind, h, Result.andThen_ok]
  rfl
theorem run_neq69 (a b : Bs 16) (w : World) : (binOp .neq 69 (.agg a.cs.toArray) (.agg b.cs.toArray)).run Tryz.prog w = .ok (.bool (!decide (a = b))) w := by
  have h : (Op.equal 69 (.agg a.cs.toArray) (.agg b.cs.toArray)).run Tryz.prog w = .ok (decide (a = b)) w := by
    have h := run_equalIn_bytes (P := Tryz.prog) 9998 a.i b.i un69 un5 (by kernel_rfl) (by kernel_rfl) w
    rw [show decide (a.i = b.i) = decide (a = b) from decide_eq_decide.2 Bs.i_inj] at h
    exact h
  unfold binOp
  simp only [Sem.run_bind, h, Result.andThen_ok]
  rfl
theorem g69e (x y : Operand) (a b : Array Value) (w : World) : (eqGuard .eql 69 x y (.agg a) (.agg b)).run Tryz.prog w = .ok () w := by
  have e : Tryz.prog.eqGuardType Tryz.prog.depth 69 = false := by kernel_rfl
  unfold eqGuard
  simp [e]
theorem g69n (x y : Operand) (a b : Array Value) (w : World) : (eqGuard .neq 69 x y (.agg a) (.agg b)).run Tryz.prog w = .ok () w := by
  have e : Tryz.prog.eqGuardType Tryz.prog.depth 69 = false := by kernel_rfl
  unfold eqGuard
  simp [e]
section
variable {op : Oper} {ρ : Operand → Value} {w : World}
theorem ex_eq69 (x y : Operand) (z : TypeId) (ho : op.op = .binOp .eql 69 x y z) (a b : Bs 16) (hx : ρ x = .agg a.cs.toArray) (hy : ρ y = .agg b.cs.toArray) (r : Bool) (hr : decide (a = b) = r) : (execOp ρ op).run Tryz.prog w = .ok (.value (.bool r)) w := by
  subst hr
  exact ex_eql 69 z x y ho _ _ hx hy _ (g69e _ _ _ _ _) (run_eq69 a b w)
theorem ex_ne69 (x y : Operand) (z : TypeId) (ho : op.op = .binOp .neq 69 x y z) (a b : Bs 16) (hx : ρ x = .agg a.cs.toArray) (hy : ρ y = .agg b.cs.toArray) (r : Bool) (hr : (!decide (a = b)) = r) : (execOp ρ op).run Tryz.prog w = .ok (.value (.bool r)) w := by
  subst hr
  exact ex_neq 69 z x y ho _ _ hx hy _ (g69n _ _ _ _ _) (run_neq69 a b w)
theorem ex_build69 (ho : op.op = .build 69 #[]) : (execOp ρ op).run Tryz.prog w = .ok (.value (.agg (zBs 16).cs.toArray)) w :=
  ex_build 69 _ ho #[] parts0 _ (by kernel_rfl)
end
/-- internal/bytealg.Compare of two IDs. -/
theorem run_cmp {w : World} {p q : Addr} (a b : Bs 16) (ha : At w p a.cs) (hb : At w q b.cs) (c d : Nat) : (callFunc 105 #[.slice (some p) 16 c, .slice (some q) 16 d]).run Tryz.prog w = .ok (.value (.int .i64 (Lib.compareBytes (a.1.map u8) (b.1.map u8)))) w := by
  have key : ∀ {p : Addr} (a : Bs 16), At w p a.cs → (Extern.Bytes.loadBytes p 16 .empty).run Tryz.prog w = .ok ⟨(a.1.map u8).toArray⟩ w := fun {p} a ha => by
    have hlen : a.i.1.length = 16 := a.i.2
    have h := Lib.run_loadBytesX (P := Tryz.prog) w a.i.1 p .empty (fun j x hj => ha j _ (by show (a.i.1.map (Value.int .u8))[j]? = _; rw [List.getElem?_map, hj]; rfl))
    rw [hlen] at h
    rw [h]
    congr 1
    show (⟨#[] ++ (Lib.bytesOf (a.1.map (fun x => (x.toNat : Int)))).toArray⟩ : ByteArray) = _
    congr 1
    rw [Array.empty_append]
    congr 1
    show (a.1.map (fun x => (x.toNat : Int))).map _ = _
    rw [List.map_map]
    refine List.map_congr_left fun x _ => ?_
    show ((x.toNat : Int).toNat).toUInt8 = UInt8.ofBitVec x
    have hx := x.isLt
    apply UInt8.toNat_inj.1
    show ((x.toNat : Int).toNat) % 256 = x.toNat
    omega
  have hcmp : (Extern.BytealgCompare.compare #[.slice (some p) 16 c, .slice (some q) 16 d]).run Tryz.prog w = .ok (.int .i64 (Lib.compareBytes (a.1.map u8) (b.1.map u8))) w := by
    change Sem.run Tryz.prog (do pure (goInt (Extern.BytealgCompare.cmp (← Extern.Bytes.bytesOf (.slice (some p) 16 c)) (← Extern.Bytes.bytesOf (.slice (some q) 16 d))))) w = _
    simp only [Extern.Bytes.bytesOf, Sem.run_bind, Sem.run_pure, key a ha, key b hb, Result.andThen_ok]
    rw [Lib.cmp_eq]
    rfl
  rw [run_callFunc_extern (e := Extern.BytealgCompare.compare) Tryz.func105 (by kernel_rfl) (by kernel_rfl) (by kernel_rfl) (by kernel_rfl), hcmp]
  rfl
structure Rv where
  whole : Bool
  grant : Int
  id : Bs 16
  exp : Int
deriving DecidableEq
def Rv.cs (x : Rv) : List Value := [.bool x.whole, .int .u64 x.grant] ++ (x.id.cs ++ ([.int .i64 x.exp]))
theorem Rv.cs_len (x : Rv) : x.cs.length = 19 := by simp [Rv.cs, Bs.cs_len]
theorem Rv.cs_one (x : Rv) : ∀ u ∈ x.cs, u.oneCell' = true := by
  intro u hu
  simp only [Rv.cs, List.mem_cons, List.mem_append, List.not_mem_nil, or_false, or_assoc] at hu
  rcases hu with rfl | rfl | hu | rfl
  · rfl
  · rfl
  · exact Bs.cs_one _ u hu
  · rfl
def Rv.arr (x : Rv) : Array Value := x.cs.toArray
theorem Rv.arr_size (x : Rv) : x.arr.size = 19 := by simp [Rv.arr, Rv.cs_len]
theorem Rv.arr_one (x : Rv) : x.arr.all (·.oneCell') = true := all_oneCell_toArray x.cs_one
theorem Rv.cs_0 (x : Rv) : x.cs[0]? = some (.bool x.whole) := by
  rw [show x.cs = [] ++ .bool x.whole :: ([.int .u64 x.grant] ++ (x.id.cs ++ ([.int .i64 x.exp]))) by simp [Rv.cs]]
  exact nth_mid (by simp [Bs.cs_len])
theorem Rv.arr_0 (x : Rv) : x.arr[0]? = some (.bool x.whole) := by rw [show x.arr = x.cs.toArray from rfl]; simpa using x.cs_0
theorem Rv.cs_1 (x : Rv) : x.cs[1]? = some (.int .u64 x.grant) := by
  rw [show x.cs = [.bool x.whole] ++ .int .u64 x.grant :: (x.id.cs ++ ([.int .i64 x.exp])) by simp [Rv.cs]]
  exact nth_mid (by simp [Bs.cs_len])
theorem Rv.arr_1 (x : Rv) : x.arr[1]? = some (.int .u64 x.grant) := by rw [show x.arr = x.cs.toArray from rfl]; simpa using x.cs_1
theorem Rv.id_at {w : World} {p : Addr} {x : Rv} (h : At w p x.cs) : At w (p.add 2) x.id.cs := at_mid (pre := [.bool x.whole, .int .u64 x.grant]) (post := [.int .i64 x.exp]) h (by simp [Rv.cs]) (by simp [Bs.cs_len])
theorem Rv.cs_18 (x : Rv) : x.cs[18]? = some (.int .i64 x.exp) := by
  rw [show x.cs = [.bool x.whole, .int .u64 x.grant] ++ (x.id.cs) ++ .int .i64 x.exp :: ([]) by simp [Rv.cs]]
  exact nth_mid (by simp [Bs.cs_len])
theorem Rv.arr_18 (x : Rv) : x.arr[18]? = some (.int .i64 x.exp) := by rw [show x.arr = x.cs.toArray from rfl]; simpa using x.cs_18
theorem Rv.set_18 (x : Rv) (u : Int) : x.cs.take 18 ++ [.int .i64 u] ++ x.cs.drop (18 + 1) = ({ x with exp := u } : Rv).cs := by
  have h := set_mid (pre := [.bool x.whole, .int .u64 x.grant] ++ (x.id.cs)) (mid := [.int .i64 x.exp]) (mid' := [.int .i64 u]) (post := []) (j := 18) (m := 1) (by simp [Bs.cs_len]) rfl
  simpa [Rv.cs] using h
def kRv : Kd Rv := kBlk Rv.cs 19 Rv.cs_len Rv.cs_one
def zRv : Rv := ⟨false, 0, zBs 16, 0⟩
theorem zero85 : ∀ w, (zeroValue 85).run Tryz.prog w = .ok (.agg zRv.arr) w := fun _ => by kernel_rfl
theorem row85 : row? Tryz.prog 85 19 = true := by kernel_rfl
theorem lrow85 (x : Rv) {w : World} {p : Addr} (h : At w p x.cs) : (loadVar 85 p).run Tryz.prog w = .ok (.agg x.arr) w := lvr (by rw [Rv.cs_len]; exact row85) h
theorem sz85 (x : Rv) : (Tryz.prog.info? 85).map (·.size) = some x.arr.size := by rw [Rv.arr_size]; exact sz_row row85
theorem build85_123x (grant : Int) (exp : Int) (id0 id1 id2 id3 id4 id5 id6 id7 id8 id9 id10 id11 id12 id13 id14 id15 : BitVec 8) (w : World) : (Instr.build 85 #[(1, .int .u64 grant), (2, .agg #[.int .u8 (id0.toNat : Int), .int .u8 (id1.toNat : Int), .int .u8 (id2.toNat : Int), .int .u8 (id3.toNat : Int), .int .u8 (id4.toNat : Int), .int .u8 (id5.toNat : Int), .int .u8 (id6.toNat : Int), .int .u8 (id7.toNat : Int), .int .u8 (id8.toNat : Int), .int .u8 (id9.toNat : Int), .int .u8 (id10.toNat : Int), .int .u8 (id11.toNat : Int), .int .u8 (id12.toNat : Int), .int .u8 (id13.toNat : Int), .int .u8 (id14.toNat : Int), .int .u8 (id15.toNat : Int)]), (3, .int .i64 exp)]).run Tryz.prog w = .ok (.agg #[.bool false, .int .u64 grant, .int .u8 (id0.toNat : Int), .int .u8 (id1.toNat : Int), .int .u8 (id2.toNat : Int), .int .u8 (id3.toNat : Int), .int .u8 (id4.toNat : Int), .int .u8 (id5.toNat : Int), .int .u8 (id6.toNat : Int), .int .u8 (id7.toNat : Int), .int .u8 (id8.toNat : Int), .int .u8 (id9.toNat : Int), .int .u8 (id10.toNat : Int), .int .u8 (id11.toNat : Int), .int .u8 (id12.toNat : Int), .int .u8 (id13.toNat : Int), .int .u8 (id14.toNat : Int), .int .u8 (id15.toNat : Int), .int .i64 exp]) w := by kernel_rfl
theorem build85_123 (grant : Int) (id : Bs 16) (exp : Int) (w : World) : (Instr.build 85 #[(1, .int .u64 grant), (2, .agg id.cs.toArray), (3, .int .i64 exp)]).run Tryz.prog w = .ok (.agg (⟨false, grant, id, exp⟩ : Rv).arr) w := by
  obtain ⟨lid, hid⟩ := id
  match lid, hid with
  | [id0, id1, id2, id3, id4, id5, id6, id7, id8, id9, id10, id11, id12, id13, id14, id15], _ => exact build85_123x grant exp id0 id1 id2 id3 id4 id5 id6 id7 id8 id9 id10 id11 id12 id13 id14 id15 w
theorem build85_013 (whole : Bool) (grant : Int) (exp : Int) (w : World) : (Instr.build 85 #[(0, .bool whole), (1, .int .u64 grant), (3, .int .i64 exp)]).run Tryz.prog w = .ok (.agg (⟨whole, grant, zBs 16, exp⟩ : Rv).arr) w := by kernel_rfl
theorem newrow85x (whole : Bool) (grant : Int) (exp : Int) (id0 id1 id2 id3 id4 id5 id6 id7 id8 id9 id10 id11 id12 id13 id14 id15 : BitVec 8) (w : World) : (Instr.buildSlice 57 1 #[(0, .agg #[.bool whole, .int .u64 grant, .int .u8 (id0.toNat : Int), .int .u8 (id1.toNat : Int), .int .u8 (id2.toNat : Int), .int .u8 (id3.toNat : Int), .int .u8 (id4.toNat : Int), .int .u8 (id5.toNat : Int), .int .u8 (id6.toNat : Int), .int .u8 (id7.toNat : Int), .int .u8 (id8.toNat : Int), .int .u8 (id9.toNat : Int), .int .u8 (id10.toNat : Int), .int .u8 (id11.toNat : Int), .int .u8 (id12.toNat : Int), .int .u8 (id13.toNat : Int), .int .u8 (id14.toNat : Int), .int .u8 (id15.toNat : Int), .int .i64 exp])]).run Tryz.prog w = .ok (.slice (some ⟨w.heap.size, 0, none⟩) 1 1) (w.alloc (.cells #[.bool whole, .int .u64 grant, .int .u8 (id0.toNat : Int), .int .u8 (id1.toNat : Int), .int .u8 (id2.toNat : Int), .int .u8 (id3.toNat : Int), .int .u8 (id4.toNat : Int), .int .u8 (id5.toNat : Int), .int .u8 (id6.toNat : Int), .int .u8 (id7.toNat : Int), .int .u8 (id8.toNat : Int), .int .u8 (id9.toNat : Int), .int .u8 (id10.toNat : Int), .int .u8 (id11.toNat : Int), .int .u8 (id12.toNat : Int), .int .u8 (id13.toNat : Int), .int .u8 (id14.toNat : Int), .int .u8 (id15.toNat : Int), .int .i64 exp] 85)) := by kernel_rfl
theorem newrow85 (x : Rv) (w : World) : (Instr.buildSlice 57 1 #[(0, .agg x.arr)]).run Tryz.prog w = .ok (.slice (some ⟨w.heap.size, 0, none⟩) 1 1) (w.alloc (.cells x.arr 85)) := by
  obtain ⟨whole, grant, ⟨lid, hid⟩, exp⟩ := x
  match lid, hid with
  | [id0, id1, id2, id3, id4, id5, id6, id7, id8, id9, id10, id11, id12, id13, id14, id15], _ => exact newrow85x whole grant exp id0 id1 id2 id3 id4 id5 id6 id7 id8 id9 id10 id11 id12 id13 id14 id15 w
structure St where
  do_ : Int
  grant : Int
  id : Bs 16
  exp : Int
  raw : Option Addr × Nat × Nat
def St.cs (x : St) : List Value := [.int .i64 x.do_, .int .u64 x.grant] ++ (x.id.cs ++ ([.int .i64 x.exp, .slice x.raw.1 x.raw.2.1 x.raw.2.2]))
theorem St.cs_len (x : St) : x.cs.length = 20 := by simp [St.cs, Bs.cs_len]
theorem St.cs_one (x : St) : ∀ u ∈ x.cs, u.oneCell' = true := by
  intro u hu
  simp only [St.cs, List.mem_cons, List.mem_append, List.not_mem_nil, or_false, or_assoc] at hu
  rcases hu with rfl | rfl | hu | rfl | rfl
  · rfl
  · rfl
  · exact Bs.cs_one _ u hu
  · rfl
  · rfl
def St.arr (x : St) : Array Value := x.cs.toArray
theorem St.arr_size (x : St) : x.arr.size = 20 := by simp [St.arr, St.cs_len]
theorem St.arr_one (x : St) : x.arr.all (·.oneCell') = true := all_oneCell_toArray x.cs_one
theorem St.cs_0 (x : St) : x.cs[0]? = some (.int .i64 x.do_) := by
  rw [show x.cs = [] ++ .int .i64 x.do_ :: ([.int .u64 x.grant] ++ (x.id.cs ++ ([.int .i64 x.exp, .slice x.raw.1 x.raw.2.1 x.raw.2.2]))) by simp [St.cs]]
  exact nth_mid (by simp [Bs.cs_len])
theorem St.arr_0 (x : St) : x.arr[0]? = some (.int .i64 x.do_) := by rw [show x.arr = x.cs.toArray from rfl]; simpa using x.cs_0
theorem St.cs_1 (x : St) : x.cs[1]? = some (.int .u64 x.grant) := by
  rw [show x.cs = [.int .i64 x.do_] ++ .int .u64 x.grant :: (x.id.cs ++ ([.int .i64 x.exp, .slice x.raw.1 x.raw.2.1 x.raw.2.2])) by simp [St.cs]]
  exact nth_mid (by simp [Bs.cs_len])
theorem St.arr_1 (x : St) : x.arr[1]? = some (.int .u64 x.grant) := by rw [show x.arr = x.cs.toArray from rfl]; simpa using x.cs_1
theorem St.id_at {w : World} {p : Addr} {x : St} (h : At w p x.cs) : At w (p.add 2) x.id.cs := at_mid (pre := [.int .i64 x.do_, .int .u64 x.grant]) (post := [.int .i64 x.exp, .slice x.raw.1 x.raw.2.1 x.raw.2.2]) h (by simp [St.cs]) (by simp [Bs.cs_len])
theorem St.cs_18 (x : St) : x.cs[18]? = some (.int .i64 x.exp) := by
  rw [show x.cs = [.int .i64 x.do_, .int .u64 x.grant] ++ (x.id.cs) ++ .int .i64 x.exp :: ([.slice x.raw.1 x.raw.2.1 x.raw.2.2]) by simp [St.cs]]
  exact nth_mid (by simp [Bs.cs_len])
theorem St.arr_18 (x : St) : x.arr[18]? = some (.int .i64 x.exp) := by rw [show x.arr = x.cs.toArray from rfl]; simpa using x.cs_18
theorem St.set_18 (x : St) (u : Int) : x.cs.take 18 ++ [.int .i64 u] ++ x.cs.drop (18 + 1) = ({ x with exp := u } : St).cs := by
  have h := set_mid (pre := [.int .i64 x.do_, .int .u64 x.grant] ++ (x.id.cs)) (mid := [.int .i64 x.exp]) (mid' := [.int .i64 u]) (post := [.slice x.raw.1 x.raw.2.1 x.raw.2.2]) (j := 18) (m := 1) (by simp [Bs.cs_len]) rfl
  simpa [St.cs] using h
theorem St.cs_19 (x : St) : x.cs[19]? = some (.slice x.raw.1 x.raw.2.1 x.raw.2.2) := by
  rw [show x.cs = [.int .i64 x.do_, .int .u64 x.grant] ++ (x.id.cs ++ ([.int .i64 x.exp])) ++ .slice x.raw.1 x.raw.2.1 x.raw.2.2 :: ([]) by simp [St.cs]]
  exact nth_mid (by simp [Bs.cs_len])
theorem St.arr_19 (x : St) : x.arr[19]? = some (.slice x.raw.1 x.raw.2.1 x.raw.2.2) := by rw [show x.arr = x.cs.toArray from rfl]; simpa using x.cs_19
def kSt : Kd St := kBlk St.cs 20 St.cs_len St.cs_one
def zSt : St := ⟨0, 0, zBs 16, 0, (none, 0, 0)⟩
theorem zero71 : ∀ w, (zeroValue 71).run Tryz.prog w = .ok (.agg zSt.arr) w := fun _ => by kernel_rfl
theorem row71 : row? Tryz.prog 71 20 = true := by kernel_rfl
theorem lrow71 (x : St) {w : World} {p : Addr} (h : At w p x.cs) : (loadVar 71 p).run Tryz.prog w = .ok (.agg x.arr) w := lvr (by rw [St.cs_len]; exact row71) h
theorem sz71 (x : St) : (Tryz.prog.info? 71).map (·.size) = some x.arr.size := by rw [St.arr_size]; exact sz_row row71
end Go.Proofs.YtnjbjjmoglogeaaGreat
