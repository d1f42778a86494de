/- Words of 32 bits and bytes as the program's values; SHA-256 in plain Lean; the laws of one operation each on words. No conditions but those of each lemma. -/
import Derived.Test.YtkppipeadibfkaaDoorProg
import Derived.Test.YtkppipeadibfkaaDoorWG
namespace Go.Proofs.YtkppipeadibfkaaDoor
open Go.RowKit Go.Proofs.YtkppipeadibfkaaDoorW.PrintWords KB WG
set_option linter.unusedVariables false
set_option linter.unusedSimpArgs false

abbrev Wd : Type := BitVec 32
abbrev By : Type := BitVec 8
def wv (x : Wd) : Value := .int .u32 (x.toNat : Int)
def bv (x : By) : Value := .int .u8 (x.toNat : Int)
def wcs (l : List Wd) : List Value := l.map wv
def bcs (l : List By) : List Value := l.map bv
theorem wcs_len (l : List Wd) : (wcs l).length = l.length := by simp [wcs]
theorem bcs_len (l : List By) : (bcs l).length = l.length := by simp [bcs]
theorem wcs_one (l : List Wd) : ∀ u ∈ wcs l, u.oneCell' = true := fun u hu => by obtain ⟨x, _, rfl⟩ := List.mem_map.1 hu; rfl
theorem bcs_one (l : List By) : ∀ u ∈ bcs l, u.oneCell' = true := fun u hu => by obtain ⟨x, _, rfl⟩ := List.mem_map.1 hu; rfl
theorem wcs_get {l : List Wd} {i : Nat} (h : i < l.length) : (wcs l)[i]? = some (wv (l.getD i 0)) := by
  simp [wcs, List.getD_eq_getElem?_getD, List.getElem?_eq_getElem h]
theorem bcs_get {l : List By} {i : Nat} (h : i < l.length) : (bcs l)[i]? = some (bv (l.getD i 0)) := by
  simp [bcs, List.getD_eq_getElem?_getD, List.getElem?_eq_getElem h]
theorem wcs_arr {l : List Wd} {i : Nat} (h : i < l.length) : ((wcs l).toArray)[i]? = some (wv (l.getD i 0)) := by rw [List.getElem?_toArray]; exact wcs_get h
theorem bcs_arr {l : List By} {i : Nat} (h : i < l.length) : ((bcs l).toArray)[i]? = some (bv (l.getD i 0)) := by rw [List.getElem?_toArray]; exact bcs_get h
theorem map_put {α : Type} (f : α → Value) (l : List α) (i : Nat) (x : α) (h : i < l.length) : (l.map f).take i ++ [f x] ++ (l.map f).drop (i + [f x].length) = (l.set i x).map f := by
  rw [List.set_eq_take_append_cons_drop, if_pos h, List.map_append, List.map_cons, ← List.map_take, ← List.map_drop]
  simp
theorem wcs_set (l : List Wd) (i : Nat) (x : Wd) (h : i < l.length) : (wcs l).take i ++ [wv x] ++ (wcs l).drop (i + [wv x].length) = wcs (l.set i x) := map_put wv l i x h
theorem bcs_set (l : List By) (i : Nat) (x : By) (h : i < l.length) : (bcs l).take i ++ [bv x] ++ (bcs l).drop (i + [bv x].length) = bcs (l.set i x) := map_put bv l i x h

/-! ### SHA-256 -/
def kTab : List Wd := [0x428a2f98, 0x71374491, 0xb5c0fbcf, 0xe9b5dba5, 0x3956c25b, 0x59f111f1, 0x923f82a4, 0xab1c5ed5, 0xd807aa98, 0x12835b01, 0x243185be, 0x550c7dc3, 0x72be5d74, 0x80deb1fe, 0x9bdc06a7, 0xc19bf174,
  0xe49b69c1, 0xefbe4786, 0x0fc19dc6, 0x240ca1cc, 0x2de92c6f, 0x4a7484aa, 0x5cb0a9dc, 0x76f988da, 0x983e5152, 0xa831c66d, 0xb00327c8, 0xbf597fc7, 0xc6e00bf3, 0xd5a79147, 0x06ca6351, 0x14292967,
  0x27b70a85, 0x2e1b2138, 0x4d2c6dfc, 0x53380d13, 0x650a7354, 0x766a0abb, 0x81c2c92e, 0x92722c85, 0xa2bfe8a1, 0xa81a664b, 0xc24b8b70, 0xc76c51a3, 0xd192e819, 0xd6990624, 0xf40e3585, 0x106aa070,
  0x19a4c116, 0x1e376c08, 0x2748774c, 0x34b0bcb5, 0x391c0cb3, 0x4ed8aa4a, 0x5b9cca4f, 0x682e6ff3, 0x748f82ee, 0x78a5636f, 0x84c87814, 0x8cc70208, 0x90befffa, 0xa4506ceb, 0xbef9a3f7, 0xc67178f2]
def hIni : List Wd := [0x6a09e667, 0xbb67ae85, 0x3c6ef372, 0xa54ff53a, 0x510e527f, 0x9b05688c, 0x1f83d9ab, 0x5be0cd19]
/-- A word turned right, as the program turns it. -/
def rr (x : Wd) (n : Nat) : Wd := x <<< (32 - n) ||| x >>> n
def lo0 (x : Wd) : Wd := rr x 7 ^^^ rr x 18 ^^^ x >>> 3
def lo1 (x : Wd) : Wd := rr x 17 ^^^ rr x 19 ^^^ x >>> 10
def up0 (x : Wd) : Wd := rr x 2 ^^^ rr x 13 ^^^ rr x 22
def up1 (x : Wd) : Wd := rr x 6 ^^^ rr x 11 ^^^ rr x 25
def ch (e f g : Wd) : Wd := e &&& f ^^^ ~~~e &&& g
def maj (a b c : Wd) : Wd := a &&& b ^^^ a &&& c ^^^ b &&& c
def wide (b : By) : Wd := b.setWidth 32
def word (b : List By) (t : Nat) : Wd := ((wide (b.getD (4 * t) 0) <<< 24 ||| wide (b.getD (4 * t + 1) 0) <<< 16) ||| wide (b.getD (4 * t + 2) 0) <<< 8) ||| wide (b.getD (4 * t + 3) 0)
def nextW (b : List By) (ws : List Wd) : Wd :=
  if ws.length < 16 then word b ws.length else ws.getD (ws.length - 16) 0 + lo0 (ws.getD (ws.length - 15) 0) + ws.getD (ws.length - 7) 0 + lo1 (ws.getD (ws.length - 2) 0)
def sched (b : List By) : Nat → List Wd
  | 0 => []
  | t + 1 => sched b t ++ [nextW b (sched b t)]
theorem sched_len (b : List By) : ∀ t, (sched b t).length = t
  | 0 => rfl
  | t + 1 => by rw [sched, List.length_append, sched_len b t]; rfl
/-- One round: the eight words behind it. -/
def rndP (v : List Wd) (k w : Wd) : Wd := v.getD 7 0 + up1 (v.getD 4 0) + ch (v.getD 4 0) (v.getD 5 0) (v.getD 6 0) + k + w
def rndQ (v : List Wd) : Wd := up0 (v.getD 0 0) + maj (v.getD 0 0) (v.getD 1 0) (v.getD 2 0)
def rnd (v : List Wd) (k w : Wd) : List Wd := [rndP v k w + rndQ v, v.getD 0 0, v.getD 1 0, v.getD 2 0, v.getD 3 0 + rndP v k w, v.getD 4 0, v.getD 5 0, v.getD 6 0]
def rounds (ws h : List Wd) : Nat → List Wd
  | 0 => h
  | t + 1 => rnd (rounds ws h t) (kTab.getD t 0) (ws.getD t 0)
theorem rounds_len (ws : List Wd) {h : List Wd} (hh : h.length = 8) : ∀ t, (rounds ws h t).length = 8
  | 0 => hh
  | _ + 1 => rfl
/-- The words behind a block. -/
def addW (h v : List Wd) : List Wd := List.zipWith (· + ·) h v
def blk (h : List Wd) (b : List By) : List Wd := addW h (rounds (sched b 64) h 64)
theorem blk_len {h : List Wd} (b : List By) (hh : h.length = 8) : (blk h b).length = 8 := by unfold blk addW; rw [List.length_zipWith, rounds_len _ hh, hh]; rfl
/-- All whole blocks of a row, and what is left. -/
def feed (h : List Wd) (b : List By) : List Wd × List By :=
  if h64 : 64 ≤ b.length then feed (blk h (b.take 64)) (b.drop 64) else (h, b)
termination_by b.length
decreasing_by rw [List.length_drop]; omega

/-! ### Operations on words -/
theorem w32 (n : Nat) : IntKind.u32.wrap (n : Int) = ((BitVec.ofNat 32 n).toNat : Int) := by simp [IntKind.wrap, IntKind.bits, IntKind.signed]
theorem w8 (n : Nat) : IntKind.u8.wrap (n : Int) = ((BitVec.ofNat 8 n).toNat : Int) := by simp [IntKind.wrap, IntKind.bits, IntKind.signed]
theorem w32_add (a b : Wd) : IntKind.u32.wrap ((a.toNat : Int) + (b.toNat : Int)) = ((a + b).toNat : Int) := by
  rw [← Int.natCast_add, w32]; congr 1
theorem w32_wide (b : By) : IntKind.u32.wrap (b.toNat : Int) = ((wide b).toNat : Int) := by
  rw [w32]; congr 1; simp [wide, BitVec.toNat_setWidth]
theorem w8_low (x : Wd) : IntKind.u8.wrap (x.toNat : Int) = (((x.setWidth 8 : By)).toNat : Int) := by
  rw [w8]; congr 1
theorem of_nat (x : Wd) : BitVec.ofInt 32 (x.toNat : Int) = x := by apply BitVec.eq_of_toNat_eq; simp [BitVec.toNat_ofInt]
section
variable {P : Program} {op : Oper} {ρ : Operand → Value} {w : World}
def bitW (o : BinOp) (a b : Wd) : Wd := match o with | .and => a &&& b | .or => a ||| b | _ => a ^^^ b
theorem back32 (r : Wd) : IntKind.u32.wrap (r.toNat : Int) = (r.toNat : Int) := by
  rw [w32]; congr 1; simp
theorem ex_bit (o : BinOp) (ho3 : o = .and ∨ o = .or ∨ o = .xor) (T T' : TypeId) (x y : Operand) (ho : op.op = .binOp o T x y T') (a b : Wd) (hx : ρ x = wv a) (hy : ρ y = wv b) : (execOp ρ op).run P w = .ok (.value (wv (bitW o a b))) w := by
  have hb : (binOp o T (wv a) (wv b)).run P w = .ok (wv (bitW o a b)) w := by
    have ha := of_nat a
    have hb := of_nat b
    rcases ho3 with rfl | rfl | rfl <;>
    · first | rw [wv, wv, binOp_and] | rw [wv, wv, binOp_or] | rw [wv, wv, binOp_xor]
      unfold Op.intBits
      simp only [Sem.run_pure]
      refine congrArg (fun z => Result.ok (Value.int .u32 z) w) ?_
      refine Eq.trans ?_ (back32 _)
      refine congrArg (fun r : Wd => IntKind.u32.wrap (r.toNat : Int)) ?_
      show _ = (_ : Wd)
      simp only [bitW]
      first
        | exact congr (congrArg (fun p q : Wd => p &&& q) ha) hb
        | exact congr (congrArg (fun p q : Wd => p ||| q) ha) hb
        | exact congr (congrArg (fun p q : Wd => p ^^^ q) ha) hb
  have hg : (eqGuard o T x y (wv a) (wv b)).run P w = .ok () w := by rcases ho3 with rfl | rfl | rfl <;> simp [eqGuard]
  unfold execOp
  simp only [ho, hx, hy, Sem.run_bind, hg, hb, Result.andThen_ok, Sem.run_pure]
theorem ex_addw (T T' : TypeId) (x y : Operand) (ho : op.op = .binOp .add T x y T') (a b : Wd) (hx : ρ x = wv a) (hy : ρ y = wv b) : (execOp ρ op).run P w = .ok (.value (wv (a + b))) w :=
  ex_bin .add T T' x y ho .u32 _ _ hx hy _ (b_add (w32_add a b))
theorem ex_notw (T : TypeId) (x : Operand) (ho : op.op = .unOp .xor T x) (a : Wd) (hx : ρ x = wv a) : (execOp ρ op).run P w = .ok (.value (wv (~~~a))) w := by
  have hb : (Op.unary .xor (wv a)).run P w = .ok (wv (~~~a)) w := by
    show (Op.intBits .xor .u32 4294967295 (a.toNat : Int)).run P w = _
    unfold Op.intBits
    simp only [Sem.run_pure]
    refine congrArg (fun z => Result.ok (Value.int .u32 z) w) ?_
    refine Eq.trans ?_ (back32 _)
    refine congrArg (fun r : Wd => IntKind.u32.wrap (r.toNat : Int)) ?_
    show BitVec.ofInt 32 4294967295 ^^^ BitVec.ofInt 32 (a.toNat : Int) = ~~~a
    rw [of_nat, show BitVec.ofInt 32 4294967295 = BitVec.allOnes 32 by decide, BitVec.allOnes_xor]
  unfold execOp
  simp only [ho, hx]
  first
    | (simp only [Sem.run_bind, hb, Result.andThen_ok, Sem.run_pure]; done)
    | (rw [Sem.run_bind, hb]; rfl)
theorem ex_shlw (T T' : TypeId) (x y : Operand) (ho : op.op = .binOp .shl T x y T') (a : Wd) (k : IntKind) (n : Nat) (hx : ρ x = wv a) (hy : ρ y = .int k (n : Int)) (hn : Nat.ble n 32 = true) : (execOp ρ op).run P w = .ok (.value (wv (a <<< n))) w := by
  have hn := Nat.le_of_ble_eq_true hn
  have hb : (binOp .shl T (wv a) (.int k (n : Int))).run P w = .ok (wv (a <<< n)) w := by
    show (Op.shift .shl .u32 (a.toNat : Int) k (n : Int)).run P w = _
    unfold Op.shift
    rw [if_neg (by omega)]
    simp only [Sem.run_pure]
    refine congrArg (fun z => Result.ok (Value.int .u32 z) w) ?_
    rw [show min ((n : Int)).toNat IntKind.u32.bits = n from Nat.min_eq_left hn, show ((2 : Int) ^ n) = ((2 ^ n : Nat) : Int) by simp, ← Int.natCast_mul, w32]
    congr 1
    simp [BitVec.toNat_shiftLeft, Nat.shiftLeft_eq]
  have hg : (eqGuard .shl T x y (wv a) (.int k (n : Int))).run P w = .ok () w := by simp [eqGuard]
  unfold execOp
  simp only [ho, hx, hy, Sem.run_bind, hg, hb, Result.andThen_ok, Sem.run_pure]
theorem ex_shrw (T T' : TypeId) (x y : Operand) (ho : op.op = .binOp .shr T x y T') (a : Wd) (k : IntKind) (n : Nat) (hx : ρ x = wv a) (hy : ρ y = .int k (n : Int)) (hn : Nat.ble n 32 = true) : (execOp ρ op).run P w = .ok (.value (wv (a >>> n))) w := by
  have hn := Nat.le_of_ble_eq_true hn
  have hb : (binOp .shr T (wv a) (.int k (n : Int))).run P w = .ok (wv (a >>> n)) w := by
    show (Op.shift .shr .u32 (a.toNat : Int) k (n : Int)).run P w = _
    unfold Op.shift
    rw [if_neg (by omega)]
    simp only [Sem.run_pure]
    refine congrArg (fun z => Result.ok (Value.int .u32 z) w) ?_
    rw [show min ((n : Int)).toNat IntKind.u32.bits = n from Nat.min_eq_left hn]
    rw [show ((2 : Int) ^ n) = ((2 ^ n : Nat) : Int) by simp, Int.fdiv_eq_ediv_of_nonneg _ (Int.natCast_nonneg _)]
    simp [BitVec.toNat_ushiftRight, Nat.shiftRight_eq_div_pow]
  have hg : (eqGuard .shr T x y (wv a) (.int k (n : Int))).run P w = .ok () w := by simp [eqGuard]
  unfold execOp
  simp only [ho, hx, hy, Sem.run_bind, hg, hb, Result.andThen_ok, Sem.run_pure]
theorem ex_wide (s t : TypeId) (x : Operand) (ho : op.op = .convert s t x) (h : cv? P s t .u32 = true) (b : By) (hx : ρ x = bv b) : (execOp ρ op).run P w = .ok (.value (wv (wide b))) w :=
  ex_conv s t x ho .u8 .u32 h _ hx _ (w32_wide b)
theorem ex_low (s t : TypeId) (x : Operand) (ho : op.op = .convert s t x) (h : cv? P s t .u8 = true) (a : Wd) (hx : ρ x = wv a) : (execOp ρ op).run P w = .ok (.value (bv (a.setWidth 8))) w :=
  ex_conv s t x ho .u32 .u8 h _ hx _ (w8_low a)
end
end Go.Proofs.YtkppipeadibfkaaDoor
