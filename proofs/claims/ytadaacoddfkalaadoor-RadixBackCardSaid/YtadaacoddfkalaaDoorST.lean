/- Strings as lists of bytes, rows of bytes, bits of numbers, a scope with jumps: laws of one operation. No conditions but those of each lemma. -/
import Derived.Test.YtadaacoddfkalaaDoorRO
import Derived.ScopeJumps
import Derived.Lib.Bytealg
namespace Go.Proofs.YtadaacoddfkalaaDoor
open Go.RowKit Go.Proofs.YtadaacoddfkalaaDoorW.PrintWords KB WG RO
set_option linter.unusedVariables false
set_option linter.unusedSimpArgs false
set_option linter.unnecessarySimpa false
namespace ST
def str (l : List UInt8) : ByteArray := ⟨l.toArray⟩
theorem str_size (l : List UInt8) : (str l).size = l.length := by simp [str, ByteArray.size]
theorem str_data (l : List UInt8) : (str l).data.toList = l := by simp [str]
theorem str_of (s : ByteArray) : str s.data.toList = s := by
  obtain ⟨d⟩ := s
  simp [str]
theorem str_app (l m : List UInt8) : str l ++ str m = str (l ++ m) := by
  have h : ∀ (p q : Array UInt8), (⟨p⟩ : ByteArray) ++ ⟨q⟩ = ⟨p ++ q⟩ := fun p q => by
    apply ByteArray.ext
    simp
  unfold str
  rw [h]
  simp
theorem str_toList (l : List UInt8) : (str l).toList = l := ByteArray.toList_mk _
theorem str_beq (x y : List UInt8) : ((str x).toList == (str y).toList) = decide (x = y) := by
  rw [str_toList, str_toList]
  by_cases e : x = y
  · subst e; simp
  · rw [decide_eq_false e]
    exact beq_eq_false_iff_ne.2 e
/-! ### Rows of bytes -/
def bc (b : UInt8) : List Value := [.int .u8 (b.toNat : Int)]
theorem bc_len (b : UInt8) : (bc b).length = 1 := rfl
theorem bc_one (b : UInt8) : ∀ u ∈ bc b, u.oneCell' = true := fun u hu => by rw [List.mem_singleton.1 hu]; rfl
def kB : Kd UInt8 := kBlk bc 1 bc_len bc_one
theorem bc_flat (l : List UInt8) : l.flatMap bc = l.map (fun b => Value.int .u8 (b.toNat : Int)) := by
  induction l with
  | nil => rfl
  | cons b l ih => rw [List.flatMap_cons, ih]; rfl
theorem kB_at {w : World} {A : Option Addr} {n : Nat} {l : List UInt8} (h : kB.C w A n l) (hn : 0 < n) : ∃ ad, A = some ad ∧ At w ad (l.map (fun b => Value.int .u8 (b.toNat : Int))) := by
  have hl : l.length = n := h.1
  obtain ⟨x, hx⟩ : ∃ x, l[0]? = some x := ⟨_, List.getElem?_eq_getElem (by omega)⟩
  obtain ⟨ad, hA, _⟩ := C_ix (enc := bc) (m := 1) (hl := bc_len) (h1 := bc_one) h hx
  refine ⟨ad, hA, fun j v hv => ?_⟩
  rw [List.getElem?_map] at hv
  obtain ⟨b, hb, rfl⟩ := Option.map_eq_some_iff.1 hv
  obtain ⟨ad2, hA2, z⟩ := C_ix (enc := bc) (m := 1) (hl := bc_len) (h1 := bc_one) h hb
  obtain rfl := Option.some.inj (hA.symm.trans hA2)
  have := z 0 _ (rfl : (bc b)[0]? = some (.int .u8 (b.toNat : Int)))
  rw [Nat.mul_one, Addr.add_add, Nat.add_zero] at this
  exact this
/-! ### A scope whose label is jumped to -/
theorem then_g {K : Act → World → Prop} {Q : Exit → Act → World → Prop} {l : Nat} {a : Act} {w : World} (h : Q (.goto l) a w) : Exit.then K Q (.goto l) a w := h
theorem in_g {i : Nat} {Q : Exit → Act → World → Prop} {l : Nat} {a : Act} {w : World} (h : Q (.goto l) a w) : Exit.inBlock i Q (.goto l) a w := h
theorem jump_g {J : Act → World → Prop} {Q : Exit → Act → World → Prop} {l : Nat} {a : Act} {w : World} (h : J a w) : Exit.jump l J Q (.goto l) a w := ⟨rfl, h⟩
theorem jump_r {J : Act → World → Prop} {Q : Exit → Act → World → Prop} {l : Nat} {a : Act} {w : World} (h : Q .ret a w) : Exit.jump l J Q .ret a w := h
theorem jump_n {J : Act → World → Prop} {Q : Exit → Act → World → Prop} {l : Nat} {a : Act} {w : World} (h : Q .normal a w) : Exit.jump l J Q .normal a w := h
theorem least {p : Nat → Prop} (h : ∃ n, p n) : ∃ n, p n ∧ ∀ m, p m → n ≤ m := by
  obtain ⟨n, hn⟩ := h
  induction n using Nat.strongRecOn with
  | _ n ih =>
    by_cases hs : ∃ m, m < n ∧ p m
    · obtain ⟨m, hm, hp⟩ := hs
      exact ih m hm hp
    · exact ⟨n, hn, fun m hp => Nat.le_of_not_lt fun hm => hs ⟨m, hm, hp⟩⟩
theorem wp_scopeN {P : Program} {Q : Exit → Act → World → Prop} {a : Act} {w : World} {c rest : Code} (l : Nat) (J : Nat → Act → World → Prop) (hf : findLabel c l = some (.seq .skip rest))
    (first : (∀ m a w, J m a w → rest.wp P (Exit.jump l (fun a' w' => ∃ m', J m' a' w') Q) a w) → c.wp P (Exit.jump l (fun a' w' => ∃ m', J m' a' w') Q) a w)
    (pass : ∀ m a w, J m a w → rest.wp P (Exit.jump l (fun a' w' => ∃ m', m' < m ∧ J m' a' w') Q) a w) : (Code.scope c).wp P Q a w := by
  classical
  have passS : ∀ m a w, J m a w → (Code.seq .skip rest).wp P (Exit.jump l (fun a' w' => ∃ m', m' < m ∧ J m' a' w') Q) a w := fun m a w h => wp_seq (wp_skip (pass m a w h))
  have mono : ∀ m a w, J m a w → rest.wp P (Exit.jump l (fun a' w' => ∃ m', J m' a' w') Q) a w := fun m a w h =>
    Code.wp_mono (fun e a w q => by
      cases e with
      | goto l' => obtain ⟨e, m', _, h⟩ := q; exact ⟨e, m', h⟩
      | normal => exact q
      | exit id => exact q
      | ret => exact q
      | panic ch => exact q
      | outgrown => exact q) (pass m a w h)
  refine wp_scope_jumps l (fun a' w' => ∃ m', J m' a' w') (fun a w => if h : ∃ m, J m a w then Classical.choose (least h) else 0) hf (first mono) (fun a w h => ?_)
  have hs := Classical.choose_spec (least h)
  refine Code.wp_mono (fun e a1 w1 q => ?_) (passS (Classical.choose (least h)) a w hs.1)
  cases e with
  | goto l' =>
    obtain ⟨e, m', hm, hJ⟩ := q
    refine ⟨e, ⟨m', hJ⟩, ?_⟩
    have h2 : ∃ m, J m a1 w1 := ⟨m', hJ⟩
    show (if h : ∃ m, J m a1 w1 then Classical.choose (least h) else 0) < (if h : ∃ m, J m a w then Classical.choose (least h) else 0)
    rw [dif_pos h2, dif_pos h]
    exact Nat.lt_of_le_of_lt ((Classical.choose_spec (least h2)).2 m' hJ) hm
  | normal => exact q
  | exit id => exact q
  | ret => exact q
  | panic ch => exact q
  | outgrown => exact q
/-! ### Laws of one operation -/
section
variable {P : Program} {op : Oper} {ρ : Operand → Value} {w : World}
theorem ex_lens (x : Operand) (t : TypeId) (ho : op.op = .call { callee := .builtin .len, args := #[x], argTypes := #[t] }) (ht : P.underlying t = some .string) (l : List UInt8) (hx : ρ x = .string (str l)) : (execOp ρ op).run P w = .ok (.value (.int .i64 ((l.length : Nat) : Int))) w := by
  unfold execOp
  simp only [ho, resolve, List.map_toArray, List.map_cons, List.map_nil, hx, Sem.run_bind, Sem.run_pure, Result.andThen_ok, invoke, builtin, Builtin.len_]
  simp [run_underlying ht, goInt, str_size]
theorem ex_ixs (T : TypeId) (x y : Operand) (ho : op.op = .index T x y) (ht : P.underlying T = some .string) (l : List UInt8) (hx : ρ x = .string (str l)) (k : IntKind) (i : Int) (hy : ρ y = .int k i) (j : Nat) (hij : i = (j : Int)) (b : UInt8) (hb : l[j]? = some b) : (execOp ρ op).run P w = .ok (.value (.int .u8 (b.toNat : Int))) w := by
  subst hij
  have hlt := (List.getElem?_eq_some_iff.1 hb).1
  have hr := run_index_string (P := P) w T (str l) k (j : Int) ht
  unfold execOp
  simp only [ho, hx, hy, Sem.run_bind, hr]
  have hi : 0 ≤ (j : Int) ∧ (j : Int) < ((str l).size : Int) := by rw [str_size]; omega
  have hv : ((str l)[((j : Int)).toNat]'(by omega)) = b := by
    show l.toArray[((j : Int)).toNat]'_ = _
    have := (List.getElem?_eq_some_iff.1 hb).2
    simpa using this
  rw [dif_pos hi, hv]
  rfl
theorem ex_adds (T T' : TypeId) (x y : Operand) (ho : op.op = .binOp .add T x y T') (l m : List UInt8) (hx : ρ x = .string (str l)) (hy : ρ y = .string (str m)) (hl : l.length + m.length ≤ 9223372036854775807) (r : List UInt8) (hr : l ++ m = r) : (execOp ρ op).run P w = .ok (.value (.string (str r))) w := by
  have hb : (binOp .add T (.string (str l)) (.string (str m))).run P w = .ok (.string (str r)) w := by
    show (Op.stringOp .add (str l) (str m)).run P w = _
    unfold Op.stringOp
    simp only [str_size]
    rw [if_neg (by simp [IntKind.max, IntKind.bits, IntKind.signed]; omega), str_app, hr]
    rfl
  have hg : (eqGuard .add T x y (.string (str l)) (.string (str m))).run P w = .ok () w := by simp [eqGuard]
  unfold execOp
  simp only [ho, hx, hy, Sem.run_bind, hg, hb, Result.andThen_ok, Sem.run_pure]
theorem ex_eqls (T T' : TypeId) (x y : Operand) (ho : op.op = .binOp .eql T x y T') (l m : List UInt8) (hx : ρ x = .string (str l)) (hy : ρ y = .string (str m)) (r : Bool) (hr : decide (l = m) = r) : (execOp ρ op).run P w = .ok (.value (.bool r)) w := by
  refine ex_eql T T' x y ho _ _ hx hy _ (by unfold eqGuard; rfl) ?_
  subst hr
  rw [← str_beq]
  rfl
theorem ex_neqs (T T' : TypeId) (x y : Operand) (ho : op.op = .binOp .neq T x y T') (l m : List UInt8) (hx : ρ x = .string (str l)) (hy : ρ y = .string (str m)) (r : Bool) (hr : (!decide (l = m)) = r) : (execOp ρ op).run P w = .ok (.value (.bool r)) w := by
  refine ex_neq T T' x y ho _ _ hx hy _ (by unfold eqGuard; rfl) ?_
  subst hr
  rw [← str_beq]
  rfl
/-! Bits of small numbers -/
theorem ofNat_bits (n a : Nat) (h : a < 2 ^ n) : (BitVec.ofInt n (a : Int)).toNat = a := by
  rw [BitVec.ofInt_natCast, BitVec.toNat_ofNat, Nat.mod_eq_of_lt h]
theorem ex_orN (T T' : TypeId) (x y : Operand) (ho : op.op = .binOp .or T x y T') (k : IntKind) (a b : Nat) (hx : ρ x = .int k (a : Int)) (hy : ρ y = .int k (b : Int)) (ha : a < 2 ^ k.bits) (hb : b < 2 ^ k.bits) (r : Nat) (hr : a ||| b = r) (hw : k.wrap (r : Int) = (r : Int)) : (execOp ρ op).run P w = .ok (.value (.int k (r : Int))) w := by
  subst hr
  have hb : (binOp .or T (.int k (a : Int)) (.int k (b : Int))).run P w = .ok (.int k ((a ||| b : Nat) : Int)) w := by
    show (if k ≠ k then _ else Op.intBits .or k (a : Int) (b : Int) : Sem Value).run P w = _
    rw [if_neg (fun h => h rfl)]
    unfold Op.intBits
    simp only [BitVec.toNat_or, ofNat_bits _ _ ha, ofNat_bits _ _ hb, hw]
    rfl
  have hg : (eqGuard .or T x y (.int k (a : Int)) (.int k (b : Int))).run P w = .ok () w := by simp [eqGuard]
  unfold execOp
  simp only [ho, hx, hy, Sem.run_bind, hg, hb, Result.andThen_ok, Sem.run_pure]
theorem ex_andN (T T' : TypeId) (x y : Operand) (ho : op.op = .binOp .and T x y T') (k : IntKind) (a b : Nat) (hx : ρ x = .int k (a : Int)) (hy : ρ y = .int k (b : Int)) (ha : a < 2 ^ k.bits) (hb : b < 2 ^ k.bits) (r : Nat) (hr : a &&& b = r) (hw : k.wrap (r : Int) = (r : Int)) : (execOp ρ op).run P w = .ok (.value (.int k (r : Int))) w := by
  subst hr
  have hb : (binOp .and T (.int k (a : Int)) (.int k (b : Int))).run P w = .ok (.int k ((a &&& b : Nat) : Int)) w := by
    show (if k ≠ k then _ else Op.intBits .and k (a : Int) (b : Int) : Sem Value).run P w = _
    rw [if_neg (fun h => h rfl)]
    unfold Op.intBits
    simp only [BitVec.toNat_and, ofNat_bits _ _ ha, ofNat_bits _ _ hb, hw]
    rfl
  have hg : (eqGuard .and T x y (.int k (a : Int)) (.int k (b : Int))).run P w = .ok () w := by simp [eqGuard]
  unfold execOp
  simp only [ho, hx, hy, Sem.run_bind, hg, hb, Result.andThen_ok, Sem.run_pure]
theorem ex_shlN (T T' : TypeId) (x y : Operand) (ho : op.op = .binOp .shl T x y T') (k yk : IntKind) (a n : Nat) (i : Int) (hx : ρ x = .int k (a : Int)) (hy : ρ y = .int yk i) (hi : i = (n : Int)) (hn : n ≤ k.bits) (r : Nat) (hr : a * 2 ^ n = r) (hw : k.wrap (r : Int) = (r : Int)) : (execOp ρ op).run P w = .ok (.value (.int k (r : Int))) w := by
  subst hr hi
  have hb : (binOp .shl T (.int k (a : Int)) (.int yk (n : Int))).run P w = .ok (.int k ((a * 2 ^ n : Nat) : Int)) w := by
    show (Op.shift .shl k (a : Int) yk (n : Int)).run P w = _
    unfold Op.shift
    rw [if_neg (by omega)]
    simp only [Int.toNat_natCast, Nat.min_eq_left hn]
    rw [show (a : Int) * 2 ^ n = ((a * 2 ^ n : Nat) : Int) by simp, hw]
    rfl
  have hg : (eqGuard .shl T x y (.int k (a : Int)) (.int yk (n : Int))).run P w = .ok () w := by simp [eqGuard]
  unfold execOp
  simp only [ho, hx, hy, Sem.run_bind, hg, hb, Result.andThen_ok, Sem.run_pure]
theorem ex_shrN (T T' : TypeId) (x y : Operand) (ho : op.op = .binOp .shr T x y T') (k yk : IntKind) (a n : Nat) (i : Int) (hx : ρ x = .int k (a : Int)) (hy : ρ y = .int yk i) (hi : i = (n : Int)) (hn : n ≤ k.bits) (r : Nat) (hr : a / 2 ^ n = r) : (execOp ρ op).run P w = .ok (.value (.int k (r : Int))) w := by
  subst hr hi
  have hb : (binOp .shr T (.int k (a : Int)) (.int yk (n : Int))).run P w = .ok (.int k ((a / 2 ^ n : Nat) : Int)) w := by
    show (Op.shift .shr k (a : Int) yk (n : Int)).run P w = _
    unfold Op.shift
    rw [if_neg (by omega)]
    simp only [Int.toNat_natCast, Nat.min_eq_left hn]
    rw [show (2 : Int) ^ n = ((2 ^ n : Nat) : Int) by simp, Int.fdiv_eq_ediv_of_nonneg _ (Int.natCast_nonneg _)]
    rfl
  have hg : (eqGuard .shr T x y (.int k (a : Int)) (.int yk (n : Int))).run P w = .ok () w := by simp [eqGuard]
  unfold execOp
  simp only [ho, hx, hy, Sem.run_bind, hg, hb, Result.andThen_ok, Sem.run_pure]
theorem and_mod (a n : Nat) : a &&& (2 ^ n - 1) = a % 2 ^ n := Nat.and_two_pow_sub_one_eq_mod a n
theorem or_add {a b n : Nat} (h : b < 2 ^ n) : b ||| a * 2 ^ n = a * 2 ^ n + b := by
  rw [Nat.or_comm, Nat.mul_comm, ← Nat.two_pow_add_eq_or_of_lt h]
theorem or_add' {a b n : Nat} (h : b < 2 ^ n) : a * 2 ^ n ||| b = a * 2 ^ n + b := by
  rw [Nat.mul_comm, ← Nat.two_pow_add_eq_or_of_lt h]
/-- string(b). -/
theorem ex_tos (S T : TypeId) (x : Operand) (ho : op.op = .convert S T x) (e : TypeId) (hS : P.underlying S = some (.slice e)) (he : P.underlying e = some (.int .u8)) (hT : P.underlying T = some .string) (A : Option Addr) (m c : Nat) (l : List UInt8) (hx : ρ x = .slice A m c) (hC : kB.C w A m l) : (execOp ρ op).run P w = .ok (.value (.string (str l))) w := by
  have hlen : l.length = m := hC.1
  have hc : (convert S T (.slice A m c)).run P w = .ok (.string (str l)) w := by
    rcases Nat.eq_zero_or_pos m with h0 | h0
    · have : l = [] := List.eq_nil_of_length_eq_zero (by omega)
      subst this
      subst h0
      cases A with
      | none => rw [run_convert_bytes_nil w S e hS he 0 c T hT]; rfl
      | some ad =>
        have hl := run_loadCells_list (P := P) w ad [] (fun j v hj => by simp at hj)
        rw [run_convert_bytes_string w S T e (some ad) 0 c hS he hT, run_bytesToString w ad 0 c [] hl]
        rfl
    · obtain ⟨ad, rfl, hA⟩ := kB_at hC h0
      have hl := run_loadCells_list (P := P) w ad ((l.map fun b => (b.toNat : Int)).map (Value.int .u8)) (fun j v hj => hA j v (by rw [List.map_map] at hj; exact hj))
      rw [List.length_map, List.length_map, hlen] at hl
      rw [run_convert_bytes_string w S T e (some ad) m c hS he hT, run_bytesToString w ad m c _ hl, foldl_push_bytes]
      have e0 : ByteArray.empty.data = #[] := rfl
      simp only [str, e0, Array.empty_append, List.map_map]
      have e1 : ((fun x : Int => UInt8.ofNat x.toNat) ∘ fun b : UInt8 => (b.toNat : Int)) = id := by funext b; simp
      rw [e1, List.map_id]
  unfold execOp
  simp only [ho, hx, Sem.run_bind, hc, Result.andThen_ok, Sem.run_pure]
end
end ST
end Go.Proofs.YtadaacoddfkalaaDoor
