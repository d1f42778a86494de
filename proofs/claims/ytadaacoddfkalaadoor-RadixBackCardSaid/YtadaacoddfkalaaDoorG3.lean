/- Package radix: Text10 (18), Number10 (17), Bytes16 (16), Lay (10), Read (20); Within (9), before (12), lays (13). Conditions: the texts have at most 1000000 bytes; the table of powers of ten is laid, ErrRange is set. -/
import Derived.Test.YtadaacoddfkalaaDoorG2
import Derived.Lib.SmallJoins
import Derived.WideLaws
namespace Go.Proofs.YtadaacoddfkalaaDoor
open Go.RowKit Go.Proofs.YtadaacoddfkalaaDoorW.PrintWords KB WG RO
set_option linter.unusedVariables false
set_option linter.unusedSimpArgs false
set_option linter.unnecessarySimpa false
/-- What the laws need of the world: the table of powers of ten, strconv's ErrRange. -/
structure Env (w : World) : Prop where
  tab : Lib.TabIs Tryd.prog w "internal/strconv.uint64pow10" .u64 Lib.pow10Tab
  ev : ∃ ev, w.cell? ⟨2, 0, none⟩ = some ev ∧ (ev = .nilIface ∨ ∃ te pe, ev = .iface te pe)
  gt : 2 < w.heap.size
theorem Env.below {w w' : World} (h : Env w) (hb : Below w.heap.size w w') : Env w' where
  tab := by
    obtain ⟨g, hg⟩ : ∃ g, Tryd.prog.globalNamed "internal/strconv.uint64pow10" = some g := by
      have h1 := h.tab
      unfold Lib.TabIs World.var? at h1
      cases hq : Tryd.prog.globalNamed "internal/strconv.uint64pow10" with
      | none => rw [hq] at h1; cases h1
      | some g => exact ⟨g, rfl⟩
    exact Joins.tab_stays hg h.tab hb (Nat.le_refl _)
  ev := by
    obtain ⟨ev, h1, h2⟩ := h.ev
    refine ⟨ev, ?_, h2⟩
    rw [World.cell?_of_block (w := w) (w' := w') (a := ⟨2, 0, none⟩) (hb.block 2 h.gt)]
    exact h1
  gt := Nat.lt_of_lt_of_le h.gt hb.size
theorem grow_below {w : World} {k : Nat} {os : Array Obj} : Below w.heap.size w (Go.Sort.grow (w.drewN k) os) :=
  ⟨rfl, rfl, rfl, by simp [Go.Sort.grow, World.drewN], fun j hj => by
    show (((w.drewN k).heap ++ os)[j]?) = _
    rw [show (w.drewN k).heap = w.heap from rfl, Array.getElem?_append_left hj]⟩
theorem pint_below {w w' : World} (h : w' = w ∨ ∃ t, w' = Lib.bytesWorld w 5 t) : Below w.heap.size w w' := by
  rcases h with rfl | ⟨t, rfl⟩
  · exact Below.refl _ _
  · exact Lib.bytesWorld_below _ _ _
theorem m56 : Tryd.prog.underlying 56 = some (.interface (Tryd.prog.methodsAt 56)) := by kernel_rfl
section
variable {op : Oper} {ρ : Operand → Value} {w : World}
theorem ex_nilne (x : Operand) (T' : TypeId) (ho : op.op = .binOp .neq 56 x (.const .nilIface) T') (v : Value) (hx : ρ x = v) (hy : ρ (.const .nilIface) = .nilIface) (r : Bool) (hr : (v = .nilIface ∧ r = false) ∨ ((∃ u y, v = .iface u y) ∧ r = true)) : (execOp ρ op).run Tryd.prog w = .ok (.value (.bool r)) w := by
  rcases hr with ⟨rfl, rfl⟩ | ⟨⟨u, y, rfl⟩, rfl⟩
  · have hg : (eqGuard .neq 56 x (.const .nilIface) .nilIface .nilIface).run Tryd.prog w = .ok () w := by unfold eqGuard; simp
    unfold execOp
    simp only [ho, hx, hy, Sem.run_bind, hg, run_neq_nil_nil _ 56 m56, Result.andThen_ok, Sem.run_pure]
  · have hg : (eqGuard .neq 56 x (.const .nilIface) (.iface u y) .nilIface).run Tryd.prog w = .ok () w := by unfold eqGuard; simp
    unfold execOp
    simp only [ho, hx, hy, Sem.run_bind, hg, run_neq_held_nil _ 56 u y m56, Result.andThen_ok, Sem.run_pure]
theorem ex_lsss (T T' : TypeId) (x y : Operand) (ho : op.op = .binOp .lss T x y T') (l m : List UInt8) (hx : ρ x = .string (ST.str l)) (hy : ρ y = .string (ST.str m)) (r : Bool) (hr : Op.bytesLess l m = r) : (execOp ρ op).run Tryd.prog w = .ok (.value (.bool r)) w := by
  have hb : (binOp .lss T (.string (ST.str l)) (.string (ST.str m))).run Tryd.prog w = .ok (.bool r) w := by
    show (Op.stringOp .lss (ST.str l) (ST.str m)).run Tryd.prog w = _
    unfold Op.stringOp
    simp only [ST.str_toList, hr]
    rfl
  have hg : (eqGuard .lss T x y (.string (ST.str l)) (.string (ST.str m))).run Tryd.prog w = .ok () w := by simp [eqGuard]
  unfold execOp
  simp only [ho, hx, hy, Sem.run_bind, hg, hb, Result.andThen_ok, Sem.run_pure]
end
/-! ### Number10 -/
noncomputable def n10R (s : List UInt8) : Int × Int := open Classical in if n10bad s then (0, 13) else match Lib.parseIntB 64 s with
  | .ok v => (v, 0)
  | _ => (0, 14)
theorem n10R_bad {s : List UInt8} (h : n10bad s) : n10R s = (0, 13) := if_pos h
theorem n10R_ok {s : List UInt8} {v : Int} (h : ¬ n10bad s) (hp : Lib.parseIntB 64 s = .ok v) : n10R s = (v, 0) := by unfold n10R; rw [if_neg h, hp]
theorem n10R_range {s : List UInt8} (h : ¬ n10bad s) (hp : Lib.parseIntB 64 s = .range) : n10R s = (0, 14) := by unfold n10R; rw [if_neg h, hp]
theorem n10R_of {s : List UInt8} {v : Int} (h : N10 s v) : n10R s = (v, 0) := n10R_ok h.1 h.2
theorem n10R_inv {s : List UInt8} (h : (n10R s).2 = 0) : N10 s (n10R s).1 := by
  by_cases hb : n10bad s
  · rw [n10R_bad hb] at h; cases h
  · rcases n10_nosyn hb with ⟨v, hp⟩ | hp
    · rw [n10R_ok hb hp]; exact ⟨hb, hp⟩
    · rw [n10R_range hb hp] at h; cases h
theorem bad_nil {s : List UInt8} (h : Lib.trimPrefix s [45] = []) : n10bad s := .inl h
theorem bad_digs {s : List UInt8} (h : ¬ Lib.trimS (Lib.trimPrefix s [45]) digs = []) : n10bad s := .inr (.inl fun h2 => h ((trimS_nil _ _).2 fun x hx => (digs_isD x).2 (h2 x hx)))
theorem bad_zero {s : List UInt8} {x : UInt8} (hx : (Lib.trimPrefix s [45])[0]? = some x) (h : x.toNat = 48) (hs : ¬ s = [48]) : n10bad s := .inr (.inr ⟨x, by rw [List.head?_eq_getElem?]; exact hx, h, hs⟩)
theorem bad_not {s : List UInt8} {x : UInt8} (h0 : ¬ Lib.trimPrefix s [45] = []) (h1 : Lib.trimS (Lib.trimPrefix s [45]) digs = []) (hx : (Lib.trimPrefix s [45])[0]? = some x) (h2 : x.toNat = 48 → s = [48]) : ¬ n10bad s := by
  rintro (h | h | ⟨c, hc, h48, hs⟩)
  · exact h0 h
  · exact h fun y hy => (digs_isD y).1 ((trimS_nil _ _).1 h1 y hy)
  · rw [List.head?_eq_getElem?, hx] at hc
    obtain rfl := Option.some.inj hc
    exact hs (h2 h48)
theorem tp_le (s : List UInt8) : (Lib.trimPrefix s [45]).length ≤ s.length := by
  unfold Lib.trimPrefix
  split
  · rw [List.length_drop]; omega
  · exact Nat.le_refl _
theorem digs_ascii : ∀ (j : Nat) b, (ST.str digs).data.toList[j]? = some b → b.toNat < 128 := by
  rw [ST.str_data]
  exact ascii_of_all (by decide)
theorem hex_ascii : ∀ (j : Nat) b, (ST.str sHex).data.toList[j]? = some b → b.toNat < 128 := by
  rw [ST.str_data]
  exact ascii_of_all (by decide)
/-! ### Base 16 -/
def hv (c : UInt8) : Nat := (ix sHex c).getD 0
def un16 : List UInt8 → List UInt8
  | a :: b :: r => UInt8.ofNat (hv a * 16 + hv b) :: un16 r
  | _ => []
def isHex (s : List UInt8) : Prop := ∀ x ∈ s, sHex.contains x = true
noncomputable def b16R (s : List UInt8) : List UInt8 × Int := open Classical in if ¬ isHex s then ([], 10) else if s.length % 2 ≠ 0 then ([], 11) else (un16 s, 0)
theorem b16_bad {s : List UInt8} (h : ¬ Lib.trimS s sHex = []) : b16R s = ([], 10) := if_pos (fun h2 => h ((trimS_nil _ _).2 h2))
theorem b16_odd {s : List UInt8} (h : Lib.trimS s sHex = []) (h2 : ¬ s.length % 2 = 0) : b16R s = ([], 11) := by
  unfold b16R
  rw [if_neg (fun h3 => h3 ((trimS_nil _ _).1 h)), if_pos h2]
theorem b16_ok {s : List UInt8} (h : Lib.trimS s sHex = []) (h2 : s.length % 2 = 0) : b16R s = (un16 s, 0) := by
  unfold b16R
  rw [if_neg (fun h3 => h3 ((trimS_nil _ _).1 h)), if_neg (fun h3 => h3 h2)]
theorem hex_ix {c : UInt8} (h : sHex.contains c = true) : ix sHex c = some (hv c) ∧ hv c < 16 := by
  cases hq : ix sHex c with
  | none =>
    unfold ix at hq
    rw [List.findIdx?_eq_none_iff] at hq
    have h2 : c ∈ sHex := by simpa using h
    have := hq c h2
    simp at this
  | some k =>
    have h1 : hv c = k := by unfold hv; rw [hq]; rfl
    rw [h1]
    exact ⟨rfl, (ix_some hq).1⟩
theorem un16_snoc : ∀ {l : List UInt8} {a b : UInt8}, l.length % 2 = 0 → un16 (l ++ [a, b]) = un16 l ++ [UInt8.ofNat (hv a * 16 + hv b)]
  | [], a, b, _ => rfl
  | [_], _, _, h => by simp at h
  | x :: y :: l, a, b, h => by
    show _ :: un16 (l ++ [a, b]) = _ :: un16 l ++ _
    rw [un16_snoc (by simp at h; omega)]
    rfl
theorem take_two {s : List UInt8} {i : Nat} {a b : UInt8} (ha : s[i]? = some a) (hb : s[i + 1]? = some b) : s.take (i + 2) = s.take i ++ [a, b] := by
  rw [List.take_add_one, List.take_add_one, ha, hb, List.append_assoc]
  rfl
theorem un16_len : ∀ (l : List UInt8), (un16 l).length * 2 ≤ l.length
  | [] => by simp [un16]
  | [_] => by simp [un16]
  | x :: y :: l => by
    have := un16_len l
    simp only [un16, List.length_cons]
    omega
theorem or16h (a b : Nat) (h : b < 16) : a * 16 ||| b = a * 16 + b := ST.or_add' (n := 4) h
/-! ### Numbers of 1 to 8 bytes -/
def be (n wd : Nat) : List UInt8 := (List.range wd).map (fun i => UInt8.ofNat (n / 2 ^ (8 * (wd - 1 - i)) % 256))
def layR (n wd : Nat) : List UInt8 × Int := if wd < 8 ∧ n / 2 ^ (8 * wd) ≠ 0 then ([], 14) else (be n wd, 0)
theorem be_len (n wd : Nat) : (be n wd).length = wd := by simp [be]
/-- so many bytes are laid, zeros behind them. -/
def beTo (n wd i : Nat) : List UInt8 := (be n wd).take i ++ List.replicate (wd - i) 0
theorem beTo_len {n wd i : Nat} (h : i ≤ wd) : (beTo n wd i).length = wd := by simp [beTo, be_len]; omega
theorem beTo_zero (n wd : Nat) : beTo n wd 0 = List.replicate wd 0 := by simp [beTo]
theorem beTo_all (n wd : Nat) : beTo n wd wd = be n wd := by simp [beTo, List.take_of_length_le (Nat.le_of_eq (be_len n wd))]
theorem beTo_get {n wd i : Nat} (h : i < wd) : (beTo n wd i)[i]? = some 0 := by
  unfold beTo
  rw [List.getElem?_append_right (by rw [List.length_take, be_len]; omega), List.length_take, be_len, Nat.min_eq_left (by omega), Nat.sub_self]
  rw [List.getElem?_replicate]
  rw [if_pos (by omega)]
theorem beTo_set {n wd i : Nat} (h : i < wd) : (beTo n wd i).set i (UInt8.ofNat (n / 2 ^ (8 * (wd - 1 - i)) % 256)) = beTo n wd (i + 1) := by
  have e : (be n wd)[i]? = some (UInt8.ofNat (n / 2 ^ (8 * (wd - 1 - i)) % 256)) := by simp [be, h]
  unfold beTo
  rw [List.set_append_right _ _ (by rw [List.length_take, be_len]; omega), List.length_take, be_len, Nat.min_eq_left (by omega), Nat.sub_self, List.take_add_one, e, show wd - i = (wd - (i + 1)) + 1 by omega, List.replicate_succ]
  simp
theorem u8_wrap (n : Nat) : IntKind.u8.wrap (n : Int) = ((UInt8.ofNat (n % 256)).toNat : Int) := by
  rw [o8 _ (by omega)]
  simp [IntKind.wrap, IntKind.bits, IntKind.signed]
section
variable {a : Act} {w w0 : World} {n : Nat} {L : List (Nat × Value)} {H : List Blk} {op : Oper} {K : Act → World → Prop} {Q : Exit → Act → World → Prop}
theorem zc_bytes (m : Nat) : madeCells #[.int .u8 0] (m * 1) = ((List.replicate m (0 : UInt8)).flatMap ST.bc).toArray := by
  apply Array.ext'
  have e : (fun x : Nat => ([Value.int IntKind.u8 0][x % 1]?).getD default) = fun _ => Value.int IntKind.u8 0 := by funext x; rw [Nat.mod_one]; rfl
  rw [ST.bc_flat]
  simp [madeCells, e, List.map_const']
/-- make([]byte, m). -/
theorem ow_makeB (F : Fr n a L) (M : Mm w0 w H) {d : Nat} (hd : op.dst = some d) (hlt : Nat.blt d n = true) (x y : Operand) (ho : op.op = .makeSlice 28 x y) (m : Nat) (hx : a.eval x = .int .i64 ((m : Nat) : Int)) (hy : a.eval y = .int .i64 ((m : Nat) : Int)) (hm : m ≤ 140737488355328)
    (h : ∀ a' g w', Fr n a' ((d, .slice (some ⟨g, 0, none⟩) m m) :: L) → Mm w0 w' (⟨g, ((List.replicate m (0 : UInt8)).flatMap ST.bc).toArray, 5⟩ :: H) → Below w.heap.size w w' → w.heap.size ≤ g → K a' w') : op.wp Tryd.prog a w K Q := by
  obtain ⟨i0, hi, hzz⟩ := Option.map_eq_some_iff.1 i5
  simp only [Prod.mk.injEq] at hzz
  obtain ⟨hz0, hz1, hz2⟩ := hzz
  have hr := run_make (P := Tryd.prog) w 28 5 i0 (.int .u8 0) Tryd.underlying28 hi hz0 .i64 .i64 (m : Int) (m : Int) (by omega) (by omega) (by rw [hz2]; omega) (by omega)
  simp only [Int.toNat_natCast] at hr
  rw [hz1, show (Value.int .u8 0).cells = #[.int .u8 0] from rfl, zc_bytes] at hr
  have hb : Below w.heap.size w (w.alloc (.cells ((List.replicate m (0 : UInt8)).flatMap ST.bc).toArray 5)) := (Below.refl _ _).alloc (Nat.le_refl _) _
  unfold Oper.wp execOp
  simp only [ho, hx, hy, Sem.run_bind, hr, Result.andThen_ok, Sem.run_pure]
  exact (by rw [hd]; exact h _ w.heap.size _ (F.put _ hlt) (M.new ⟨_, _, _⟩ hb (Nat.le_refl _) (blk_of_alloc _ _ _)) hb (Nat.le_refl _) : K (a.put op.dst _) _)
end
theorem flat_len (l : List UInt8) : (l.flatMap ST.bc).length = l.length := by rw [ST.bc_flat, List.length_map]
theorem be_set {l : List UInt8} {i : Nat} {z b : UInt8} (h : l[i]? = some z) : ((l.flatMap ST.bc).take i ++ [Value.int .u8 (b.toNat : Int)] ++ (l.flatMap ST.bc).drop (i + 1)) = (l.set i b).flatMap ST.bc := by
  have hi := (List.getElem?_eq_some_iff.1 h).1
  rw [ST.bc_flat, ST.bc_flat, List.map_set, List.set_eq_take_append_cons_drop, if_pos (by rw [List.length_map]; exact hi), List.append_assoc]
  rfl
def rdN (l : List UInt8) : Nat := l.foldl (fun n c => n * 256 + c.toNat) 0
theorem rdN_snoc {l : List UInt8} {i : Nat} {x : UInt8} (h : l[i]? = some x) : rdN (l.take (i + 1)) = rdN (l.take i) * 256 + x.toNat := by
  unfold rdN
  rw [List.take_add_one, h, Option.toList_some, List.foldl_append]
  rfl
theorem rdN_lt (l : List UInt8) : rdN l < 256 ^ l.length := by
  have key : ∀ (l : List UInt8) (a : Nat), l.foldl (fun n c => n * 256 + c.toNat) a < (a + 1) * 256 ^ l.length := by
    intro l
    induction l with
    | nil => intro a; simp
    | cons c l ih =>
      intro a
      have hc := UInt8.toNat_lt c
      have h1 := ih (a * 256 + c.toNat)
      rw [List.foldl_cons, List.length_cons, Nat.pow_succ]
      refine Nat.lt_of_lt_of_le h1 ?_
      rw [show (a + 1) * (256 ^ l.length * 256) = ((a + 1) * 256) * 256 ^ l.length by rw [Nat.mul_comm (256 ^ l.length), Nat.mul_assoc]]
      exact Nat.mul_le_mul_right _ (by omega)
  have := key l 0
  unfold rdN
  rw [Nat.zero_add, Nat.one_mul] at this
  exact this
theorem rdN_pow {l : List UInt8} {i : Nat} (h : i < l.length) (h8 : l.length ≤ 8) : rdN (l.take i) * 256 < 18446744073709551616 := by
  have h1 := rdN_lt (l.take i)
  have h2 : (l.take i).length ≤ 7 := by rw [List.length_take]; omega
  have h3 : 256 ^ (l.take i).length ≤ 256 ^ 7 := Nat.pow_le_pow_right (by decide) h2
  have h4 : (256 : Nat) ^ 7 * 256 = 18446744073709551616 := by decide
  omega
theorem or256 (a b : Nat) (h : b < 256) : a * 256 ||| b = a * 256 + b := ST.or_add' (n := 8) h
def readR (l : List UInt8) : Int × Int := if l.length < 1 ∨ 8 < l.length then (0, 11) else ((rdN l : Nat), 0)
def wi (x : Int) : Nat := (x % 8).toNat
theorem wi_neg {x : Int} (h : x.tmod 8 < 0) : x.tmod 8 + 8 = ((wi x : Nat) : Int) := by
  unfold wi
  rw [Int.tmod_eq_emod] at *
  split at h <;> split <;> simp_all <;> omega
theorem wi_pos {x : Int} (h : ¬ x.tmod 8 < 0) : x.tmod 8 = ((wi x : Nat) : Int) := by
  unfold wi
  rw [Int.tmod_eq_emod] at *
  split at h <;> split <;> simp_all <;> omega
theorem g3_ent_29 : ent? Tryd.prog 29 = true := by kernel_rfl
set_option maxHeartbeats 1000000 in
set_option maxRecDepth 100000 in
theorem text10_any (n : Int) (h0 : -9223372036854775808 ≤ n) (h1 : n ≤ 9223372036854775807) (w : World) (hE : Env w) :
    Calls Tryd.prog 18 #[.int .i64 n] w fun e w' => e = .returned (.string (ST.str (Lib.itoa n))) ∧ Below w.heap.size w w' := by
 refine calls_start Tryd.func18 rfl rfl rfl (fun a F => ?_)
 have M : Mm w w [] := Mm.nil w
 refine wp_seq ?_
 refine wp_region_lit ?_
 refine list_val F (wn rfl) rfl rfl (.string (ST.str ([] : List UInt8))) (ex_assign _ rfl _ rfl) ?_; clear F a; intro a F
 refine wpList_nil ?_
 replace F : Fr 5 a [(0, .int .i64 n), (2, .string (ST.str ([] : List UInt8)))] := F.keep ⟨rfl, rfl, trivial⟩
 refine then_n ?_
 refine wp_seq ?_
 refine wp_region_lit ?_
 refine list_val F (wn rfl) rfl rfl (.int .i64 n) (ex_move _ rfl _ (F.e rfl)) ?_; clear F a; intro a F
 refine list_do (wn rfl) (fun K hK => ?_)
 refine ow_call rfl rfl F 29 #[.int .i64 n, .int .i64 10] (ex_call 29 _ _ rfl rfl g3_ent_29 _ (map2 (F.e rfl) rfl)) (Tryd.strconv_FormatInt_10 n h0 h1 _ (hE.below M.bel).tab) (fun e v hR => ?_)
 obtain ⟨he, k_, os_, rfl⟩ := hR
 have hb := @grow_below w k_ os_
 generalize Go.Sort.grow (w.drewN k_) os_ = v at hb ⊢
 refine ⟨.string (ST.str (Lib.itoa n)), he, ?_⟩; clear he F a; intro a F
 refine hK _ _ ?_
 clear hK K
 replace M := M.below hb; clear hb; try clear w
 refine list_val F (wn rfl) rfl rfl (.string (ST.str (Lib.itoa n))) (ex_assign _ rfl _ (F.e rfl)) ?_; clear F a; intro a F
 refine wpList_nil ?_
 replace F : Fr 5 a [(0, .int .i64 n), (2, .string (ST.str (Lib.itoa n)))] := F.keep ⟨rfl, rfl, trivial⟩
 refine then_n ?_
 refine wp_ret ?_
 exact ret_tmp F rfl rfl ⟨rfl, M.bel⟩
theorem g3_ent_27 : ent? Tryd.prog 27 = true := by kernel_rfl
theorem g3_ent_25 : ent? Tryd.prog 25 = true := by kernel_rfl
theorem g3_ent_28 : ent? Tryd.prog 28 = true := by kernel_rfl
set_option maxHeartbeats 1000000 in
set_option maxRecDepth 100000 in
theorem number10_any (s : List UInt8) (w : World) (hE : Env w) (hmx : s.length ≤ 1000001) :
    Calls Tryd.prog 17 #[.string (ST.str s)] w fun e w' => e = .returned (.tuple #[.int .i64 (n10R s).1, .int .i64 (n10R s).2]) ∧ Below w.heap.size w w' := by
 refine calls_start Tryd.func17 rfl rfl rfl (fun a F => ?_)
 have M : Mm w w [] := Mm.nil w
 refine wp_seq ?_
 refine wp_region_lit ?_
 refine list_val F (wn rfl) rfl rfl (.int .i64 0) (ex_assign _ rfl _ rfl) ?_; clear F a; intro a F
 refine list_val F (wn rfl) rfl rfl (.int .i64 0) (ex_assign _ rfl _ rfl) ?_; clear F a; intro a F
 refine wpList_nil ?_
 replace F : Fr 33 a [(0, .string (ST.str s)), (2, .int .i64 0), (3, .int .i64 0)] := F.keep ⟨rfl, rfl, rfl, trivial⟩
 refine then_n ?_
 refine wp_seq ?_
 refine wp_region_lit ?_
 refine list_val F (wn rfl) rfl rfl (.string (ST.str s)) (ex_move _ rfl _ (F.e rfl)) ?_; clear F a; intro a F
 refine list_do (wn rfl) (fun K hK => ?_)
 refine ow_call rfl rfl F 27 #[.string (ST.str s), .string (ST.str ([45]))] (ex_call 27 _ _ rfl rfl g3_ent_27 _ (map2 (F.e rfl) rfl)) (Tryd.strings_TrimPrefix (ST.str s) (ST.str [45]) _) (fun e v hR => ?_)
 obtain ⟨he, hw⟩ := hR
 rw [ST.str_data, ST.str_data] at he
 refine ⟨.string (ST.str (Lib.trimPrefix s [45])), he, ?_⟩; clear he F a; intro a F
 replace hw := hw.symm; subst hw
 refine hK _ _ ?_
 clear hK K
 refine list_val F (wn rfl) rfl rfl (.string (ST.str (Lib.trimPrefix s [45]))) (ex_assign _ rfl _ (F.e rfl)) ?_; clear F a; intro a F
 refine wpList_nil ?_
 replace F : Fr 33 a [(0, .string (ST.str s)), (2, .int .i64 0), (3, .int .i64 0), (4, .string (ST.str (Lib.trimPrefix s [45])))] := F.keep ⟨rfl, rfl, rfl, rfl, trivial⟩
 refine then_n ?_
 refine wp_seq ?_
 refine wp_seq ?_
 have htp := tp_le s
 by_cases h0 : (Lib.trimPrefix s [45]) = []
 ·
  have hbad := bad_nil h0
  refine wp_region_lit ?_
  refine list_val F (wn rfl) rfl rfl (.string (ST.str (Lib.trimPrefix s [45]))) (ex_move _ rfl _ (F.e rfl)) ?_; clear F a; intro a F
  refine list_val F (wn rfl) rfl rfl (.bool true) (ST.ex_eqls _ _ _ _ rfl (Lib.trimPrefix s [45]) ([] : List UInt8) (F.e rfl) rfl true (decide_eq_true h0)) ?_; clear F a; intro a F
  refine list_val F (wn rfl) rfl rfl (.bool true) (ex_move _ rfl _ (F.e rfl)) ?_; clear F a; intro a F
  refine list_skip F (F.wants 11 true rfl (by kernel_rfl) rfl false rfl) rfl rfl ?_; clear F a; intro a F
  refine list_skip F (F.wants 11 true rfl (by kernel_rfl) rfl false rfl) rfl rfl ?_; clear F a; intro a F
  refine list_skip F (F.wants 11 true rfl (by kernel_rfl) rfl false rfl) rfl rfl ?_; clear F a; intro a F
  refine list_val F (wn rfl) rfl rfl (.bool true) (ex_pick_t _ _ _ rfl (F.e rfl) _ rfl) ?_; clear F a; intro a F
  refine list_val F (wn rfl) rfl rfl (.bool true) (ex_move _ rfl _ (F.e rfl)) ?_; clear F a; intro a F
  refine list_skip F (F.wants 16 true rfl (by kernel_rfl) rfl false rfl) rfl rfl ?_; clear F a; intro a F
  refine list_skip F (F.wants 16 true rfl (by kernel_rfl) rfl false rfl) rfl rfl ?_; clear F a; intro a F
  refine list_skip F (F.wants 16 true rfl (by kernel_rfl) rfl false rfl) rfl rfl ?_; clear F a; intro a F
  refine list_skip F (F.wants 16 true rfl (by kernel_rfl) rfl false rfl) rfl rfl ?_; clear F a; intro a F
  refine list_skip F (F.wants0 20 rfl (by kernel_rfl) rfl) rfl rfl ?_; clear F a; intro a F
  refine list_skip F (F.wants0 20 rfl (by kernel_rfl) rfl) rfl rfl ?_; clear F a; intro a F
  refine list_skip F (F.wants 16 true rfl (by kernel_rfl) rfl false rfl) rfl rfl ?_; clear F a; intro a F
  refine list_val F (wn rfl) rfl rfl (.bool true) (ex_pick_t _ _ _ rfl (F.e rfl) _ rfl) ?_; clear F a; intro a F
  refine wpList_nil ?_
  replace F : Fr 33 a [(0, .string (ST.str s)), (2, .int .i64 0), (3, .int .i64 0), (4, .string (ST.str (Lib.trimPrefix s [45]))), (24, .bool true)] := F.keep ⟨rfl, rfl, rfl, rfl, rfl, trivial⟩
  refine then_n ?_
  refine wp_cond_true (F.e rfl) ?_
  refine wp_seq ?_
  refine wp_region_lit ?_
  refine list_val F (wn rfl) rfl rfl (.int .i64 0) (ex_assign _ rfl _ rfl) ?_; clear F a; intro a F
  refine list_val F (wn rfl) rfl rfl (.int .i64 13) (ex_assign _ rfl _ rfl) ?_; clear F a; intro a F
  refine wpList_nil ?_
  replace F : Fr 33 a [(0, .string (ST.str s)), (2, .int .i64 0), (3, .int .i64 13), (4, .string (ST.str (Lib.trimPrefix s [45]))), (24, .bool true)] := F.keep ⟨rfl, rfl, rfl, rfl, rfl, trivial⟩
  refine then_n ?_
  refine wp_ret ?_
  refine then_r ?_
  rw [(n10R_bad hbad)]
  exact ret_tmp2 F rfl rfl rfl ⟨rfl, M.bel⟩
 by_cases hd : Lib.trimS (Lib.trimPrefix s [45]) digs = []
 ·
  obtain ⟨x, hx⟩ : ∃ x, (Lib.trimPrefix s [45])[0]? = some x := by cases hq : (Lib.trimPrefix s [45]) with | nil => exact absurd hq h0 | cons y r => exact ⟨y, rfl⟩
  by_cases h48 : x.toNat = 48
  ·
   by_cases hs1 : s = [48]
   ·
    have hok := bad_not h0 hd hx (fun _ => hs1)
    refine wp_region_lit ?_
    refine list_val F (wn rfl) rfl rfl (.string (ST.str (Lib.trimPrefix s [45]))) (ex_move _ rfl _ (F.e rfl)) ?_; clear F a; intro a F
    refine list_val F (wn rfl) rfl rfl (.bool false) (ST.ex_eqls _ _ _ _ rfl (Lib.trimPrefix s [45]) ([] : List UInt8) (F.e rfl) rfl false (decide_eq_false h0)) ?_; clear F a; intro a F
    refine list_val F (wn rfl) rfl rfl (.bool false) (ex_move _ rfl _ (F.e rfl)) ?_; clear F a; intro a F
    refine list_val F (F.wants 11 false rfl (by kernel_rfl) rfl true rfl) rfl rfl (.string (ST.str (Lib.trimPrefix s [45]))) (ex_move _ rfl _ (F.e rfl)) ?_; clear F a; intro a F
    refine list_do (F.wants 11 false rfl (by kernel_rfl) rfl true rfl) (fun K hK => ?_)
    refine ow_call rfl rfl F 25 #[.string (ST.str (Lib.trimPrefix s [45])), .string (ST.str digs)] (ex_call 25 _ _ rfl rfl g3_ent_25 _ (map2 (F.e rfl) rfl)) (Tryd.strings_Trim_set (ST.str (Lib.trimPrefix s [45])) (ST.str digs) _ (by rw [ST.str_size]; omega) (by rw [ST.str_size]; decide) digs_ascii) (fun e v hR => ?_)
    obtain ⟨he, hb⟩ := hR
    rw [ST.str_data, ST.str_data] at he
    refine ⟨.string (ST.str (Lib.trimS (Lib.trimPrefix s [45]) digs)), he, ?_⟩; clear he F a; intro a F
    refine hK _ _ ?_
    clear hK K
    replace M := M.below hb; clear hb; try clear w
    refine list_val F (F.wants 11 false rfl (by kernel_rfl) rfl true rfl) rfl rfl (.bool false) (ST.ex_neqs _ _ _ _ rfl (Lib.trimS (Lib.trimPrefix s [45]) digs) ([] : List UInt8) (F.e rfl) rfl false (by rw [hd]; rfl)) ?_; clear F a; intro a F
    refine list_val F (wn rfl) rfl rfl (.bool false) (ex_pick_f _ _ _ rfl (F.e rfl) _ (F.e rfl)) ?_; clear F a; intro a F
    refine list_val F (wn rfl) rfl rfl (.bool false) (ex_move _ rfl _ (F.e rfl)) ?_; clear F a; intro a F
    refine list_val F (F.wants 16 false rfl (by kernel_rfl) rfl true rfl) rfl rfl (.string (ST.str (Lib.trimPrefix s [45]))) (ex_move _ rfl _ (F.e rfl)) ?_; clear F a; intro a F
    refine list_val F (F.wants 16 false rfl (by kernel_rfl) rfl true rfl) rfl rfl (.int .u8 ((x.toNat : Nat) : Int)) (ST.ex_ixs 9 _ _ rfl un9 (Lib.trimPrefix s [45]) (F.e rfl) .i64 _ rfl 0 rfl x hx) ?_; clear F a; intro a F
    refine list_val F (F.wants 16 false rfl (by kernel_rfl) rfl true rfl) rfl rfl (.bool true) (ex_bin .eql _ _ _ _ rfl .u8 _ _ (F.e rfl) rfl _ (b_eql (by rw [h48]; rfl))) ?_; clear F a; intro a F
    refine list_val F (F.wants 16 false rfl (by kernel_rfl) rfl true rfl) rfl rfl (.bool true) (ex_move _ rfl _ (F.e rfl)) ?_; clear F a; intro a F
    refine list_val F (F.wants 20 true rfl (by kernel_rfl) rfl true rfl) rfl rfl (.string (ST.str s)) (ex_move _ rfl _ (F.e rfl)) ?_; clear F a; intro a F
    refine list_val F (F.wants 20 true rfl (by kernel_rfl) rfl true rfl) rfl rfl (.bool false) (ST.ex_neqs _ _ _ _ rfl s ([48]) (F.e rfl) rfl false (by rw [hs1]; rfl)) ?_; clear F a; intro a F
    refine list_val F (F.wants 16 false rfl (by kernel_rfl) rfl true rfl) rfl rfl (.bool false) (ex_pick_t _ _ _ rfl (F.e rfl) _ (F.e rfl)) ?_; clear F a; intro a F
    refine list_val F (wn rfl) rfl rfl (.bool false) (ex_pick_f _ _ _ rfl (F.e rfl) _ (F.e rfl)) ?_; clear F a; intro a F
    refine wpList_nil ?_
    replace F : Fr 33 a [(0, .string (ST.str s)), (2, .int .i64 0), (3, .int .i64 0), (4, .string (ST.str (Lib.trimPrefix s [45]))), (24, .bool false)] := F.keep ⟨rfl, rfl, rfl, rfl, rfl, trivial⟩
    refine then_n ?_
    refine wp_cond_false (F.e rfl) ?_
    refine wp_skip ?_
    refine then_n ?_
    refine wp_seq ?_
    by_cases hp : ∃ v, Lib.parseIntB 64 s = .ok v
    ·
     obtain ⟨v1, hp⟩ := hp
     refine wp_region_lit ?_
     refine list_val F (wn rfl) rfl rfl (.string (ST.str s)) (ex_move _ rfl _ (F.e rfl)) ?_; clear F a; intro a F
     refine list_do (wn rfl) (fun K hK => ?_)
     refine ow_call rfl rfl F 28 #[.string (ST.str s), .int .i64 10, .int .i64 64] (ex_call 28 _ _ rfl rfl g3_ent_28 _ (map3 (F.e rfl) rfl rfl)) (Tryd.strconv_ParseInt_10_at64_ok (ST.str s) (by rw [ST.str_size]; omega) v1 (by rw [ST.str_data]; exact hp) _) (fun e u hR => ?_)
     obtain ⟨he, hp2⟩ := hR
     have hb := pint_below hp2; clear hp2
     refine ⟨.tuple #[.int .i64 v1, .nilIface], he, ?_⟩; clear he F a; intro a F
     refine hK _ _ ?_
     clear hK K
     replace M := M.below hb; clear hb; try clear v
     refine list_val F (wn rfl) rfl rfl (.tuple #[.int .i64 v1, .nilIface]) (ex_move _ rfl _ (F.e rfl)) ?_; clear F a; intro a F
     refine list_val F (wn rfl) rfl rfl (.int .i64 v1) (ex_extract _ _ rfl _ (F.e rfl) _ rfl) ?_; clear F a; intro a F
     refine list_val F (wn rfl) rfl rfl (.nilIface) (ex_extract _ _ rfl _ (F.e rfl) _ rfl) ?_; clear F a; intro a F
     refine list_val F (wn rfl) rfl rfl (.int .i64 v1) (ex_assign _ rfl _ (F.e rfl)) ?_; clear F a; intro a F
     refine list_val F (wn rfl) rfl rfl (.nilIface) (ex_assign _ rfl _ (F.e rfl)) ?_; clear F a; intro a F
     refine wpList_nil ?_
     replace F : Fr 33 a [(0, .string (ST.str s)), (2, .int .i64 0), (3, .int .i64 0), (4, .string (ST.str (Lib.trimPrefix s [45]))), (5, .int .i64 v1), (6, .nilIface), (24, .bool false)] := F.keep ⟨rfl, rfl, rfl, rfl, rfl, rfl, rfl, trivial⟩
     refine then_n ?_
     refine wp_seq ?_
     refine wp_seq ?_
     refine wp_region_lit ?_
     refine list_val F (wn rfl) rfl rfl (.nilIface) (ex_move _ rfl _ (F.e rfl)) ?_; clear F a; intro a F
     refine list_val F (wn rfl) rfl rfl (.bool false) (ex_nilne _ _ rfl (.nilIface) (F.e rfl) rfl false (.inl ⟨rfl, rfl⟩)) ?_; clear F a; intro a F
     refine wpList_nil ?_
     replace F : Fr 33 a [(0, .string (ST.str s)), (2, .int .i64 0), (3, .int .i64 0), (4, .string (ST.str (Lib.trimPrefix s [45]))), (5, .int .i64 v1), (6, .nilIface), (24, .bool false), (31, .bool false)] := F.keep ⟨rfl, rfl, rfl, rfl, rfl, rfl, rfl, rfl, trivial⟩
     refine then_n ?_
     refine wp_cond_false (F.e rfl) ?_
     refine wp_skip ?_
     refine then_n ?_
     refine wp_seq ?_
     refine wp_region_lit ?_
     refine list_val F (wn rfl) rfl rfl (.int .i64 v1) (ex_move _ rfl _ (F.e rfl)) ?_; clear F a; intro a F
     refine list_val F (wn rfl) rfl rfl (.int .i64 v1) (ex_assign _ rfl _ (F.e rfl)) ?_; clear F a; intro a F
     refine list_val F (wn rfl) rfl rfl (.int .i64 0) (ex_assign _ rfl _ rfl) ?_; clear F a; intro a F
     refine wpList_nil ?_
     replace F : Fr 33 a [(0, .string (ST.str s)), (2, .int .i64 v1), (3, .int .i64 0), (4, .string (ST.str (Lib.trimPrefix s [45]))), (5, .int .i64 v1), (6, .nilIface), (24, .bool false), (31, .bool false)] := F.keep ⟨rfl, rfl, rfl, rfl, rfl, rfl, rfl, rfl, trivial⟩
     refine then_n ?_
     refine wp_ret ?_
     rw [(n10R_ok hok hp)]
     exact ret_tmp2 F rfl rfl rfl ⟨rfl, M.bel⟩
    have hp : Lib.parseIntB 64 s = .range := (n10_nosyn hok).resolve_left hp
    refine wp_region_lit ?_
    refine list_val F (wn rfl) rfl rfl (.string (ST.str s)) (ex_move _ rfl _ (F.e rfl)) ?_; clear F a; intro a F
    refine list_do (wn rfl) (fun K hK => ?_)
    obtain ⟨ev, hv1, hv2⟩ := (hE.below M.bel).ev
    refine ow_call rfl rfl F 28 #[.string (ST.str s), .int .i64 10, .int .i64 64] (ex_call 28 _ _ rfl rfl g3_ent_28 _ (map3 (F.e rfl) rfl rfl)) (Tryd.strconv_ParseInt_10_at64_range (ST.str s) (by rw [ST.str_size]; omega) (by rw [ST.str_data]; exact hp) ev _ hv1 hv2) (fun e u hR => ?_)
    obtain ⟨N_, he, _, _, hb⟩ := hR
    generalize hin : Lib.intSat 64 (ST.str s).data.toList = q_ at he
    clear hv1 hin
    refine ⟨.tuple #[.int .i64 q_, .iface 93 (.pointer (some ⟨N_, 0, none⟩))], he, ?_⟩; clear he F a; intro a F
    refine hK _ _ ?_
    clear hK K
    replace M := M.below hb; clear hb; try clear v
    refine list_val F (wn rfl) rfl rfl (.tuple #[.int .i64 q_, .iface 93 (.pointer (some ⟨N_, 0, none⟩))]) (ex_move _ rfl _ (F.e rfl)) ?_; clear F a; intro a F
    refine list_val F (wn rfl) rfl rfl (.int .i64 q_) (ex_extract _ _ rfl _ (F.e rfl) _ rfl) ?_; clear F a; intro a F
    refine list_val F (wn rfl) rfl rfl (.iface 93 (.pointer (some ⟨N_, 0, none⟩))) (ex_extract _ _ rfl _ (F.e rfl) _ rfl) ?_; clear F a; intro a F
    refine list_val F (wn rfl) rfl rfl (.int .i64 q_) (ex_assign _ rfl _ (F.e rfl)) ?_; clear F a; intro a F
    refine list_val F (wn rfl) rfl rfl (.iface 93 (.pointer (some ⟨N_, 0, none⟩))) (ex_assign _ rfl _ (F.e rfl)) ?_; clear F a; intro a F
    refine wpList_nil ?_
    replace F : Fr 33 a [(0, .string (ST.str s)), (2, .int .i64 0), (3, .int .i64 0), (4, .string (ST.str (Lib.trimPrefix s [45]))), (5, .int .i64 q_), (6, .iface 93 (.pointer (some ⟨N_, 0, none⟩))), (24, .bool false)] := F.keep ⟨rfl, rfl, rfl, rfl, rfl, rfl, rfl, trivial⟩
    refine then_n ?_
    refine wp_seq ?_
    refine wp_seq ?_
    refine wp_region_lit ?_
    refine list_val F (wn rfl) rfl rfl (.iface 93 (.pointer (some ⟨N_, 0, none⟩))) (ex_move _ rfl _ (F.e rfl)) ?_; clear F a; intro a F
    refine list_val F (wn rfl) rfl rfl (.bool true) (ex_nilne _ _ rfl (.iface 93 (.pointer (some ⟨N_, 0, none⟩))) (F.e rfl) rfl true (.inr ⟨⟨_, _, rfl⟩, rfl⟩)) ?_; clear F a; intro a F
    refine wpList_nil ?_
    replace F : Fr 33 a [(0, .string (ST.str s)), (2, .int .i64 0), (3, .int .i64 0), (4, .string (ST.str (Lib.trimPrefix s [45]))), (5, .int .i64 q_), (6, .iface 93 (.pointer (some ⟨N_, 0, none⟩))), (24, .bool false), (31, .bool true)] := F.keep ⟨rfl, rfl, rfl, rfl, rfl, rfl, rfl, rfl, trivial⟩
    refine then_n ?_
    refine wp_cond_true (F.e rfl) ?_
    refine wp_seq ?_
    refine wp_region_lit ?_
    refine list_val F (wn rfl) rfl rfl (.int .i64 0) (ex_assign _ rfl _ rfl) ?_; clear F a; intro a F
    refine list_val F (wn rfl) rfl rfl (.int .i64 14) (ex_assign _ rfl _ rfl) ?_; clear F a; intro a F
    refine wpList_nil ?_
    replace F : Fr 33 a [(0, .string (ST.str s)), (2, .int .i64 0), (3, .int .i64 14), (4, .string (ST.str (Lib.trimPrefix s [45]))), (5, .int .i64 q_), (6, .iface 93 (.pointer (some ⟨N_, 0, none⟩))), (24, .bool false), (31, .bool true)] := F.keep ⟨rfl, rfl, rfl, rfl, rfl, rfl, rfl, rfl, trivial⟩
    refine then_n ?_
    refine wp_ret ?_
    refine then_r ?_
    rw [(n10R_range hok hp)]
    exact ret_tmp2 F rfl rfl rfl ⟨rfl, M.bel⟩
   have hbad := bad_zero hx h48 hs1
   refine wp_region_lit ?_
   refine list_val F (wn rfl) rfl rfl (.string (ST.str (Lib.trimPrefix s [45]))) (ex_move _ rfl _ (F.e rfl)) ?_; clear F a; intro a F
   refine list_val F (wn rfl) rfl rfl (.bool false) (ST.ex_eqls _ _ _ _ rfl (Lib.trimPrefix s [45]) ([] : List UInt8) (F.e rfl) rfl false (decide_eq_false h0)) ?_; clear F a; intro a F
   refine list_val F (wn rfl) rfl rfl (.bool false) (ex_move _ rfl _ (F.e rfl)) ?_; clear F a; intro a F
   refine list_val F (F.wants 11 false rfl (by kernel_rfl) rfl true rfl) rfl rfl (.string (ST.str (Lib.trimPrefix s [45]))) (ex_move _ rfl _ (F.e rfl)) ?_; clear F a; intro a F
   refine list_do (F.wants 11 false rfl (by kernel_rfl) rfl true rfl) (fun K hK => ?_)
   refine ow_call rfl rfl F 25 #[.string (ST.str (Lib.trimPrefix s [45])), .string (ST.str digs)] (ex_call 25 _ _ rfl rfl g3_ent_25 _ (map2 (F.e rfl) rfl)) (Tryd.strings_Trim_set (ST.str (Lib.trimPrefix s [45])) (ST.str digs) _ (by rw [ST.str_size]; omega) (by rw [ST.str_size]; decide) digs_ascii) (fun e v hR => ?_)
   obtain ⟨he, hb⟩ := hR
   rw [ST.str_data, ST.str_data] at he
   refine ⟨.string (ST.str (Lib.trimS (Lib.trimPrefix s [45]) digs)), he, ?_⟩; clear he F a; intro a F
   refine hK _ _ ?_
   clear hK K
   replace M := M.below hb; clear hb; try clear w
   refine list_val F (F.wants 11 false rfl (by kernel_rfl) rfl true rfl) rfl rfl (.bool false) (ST.ex_neqs _ _ _ _ rfl (Lib.trimS (Lib.trimPrefix s [45]) digs) ([] : List UInt8) (F.e rfl) rfl false (by rw [hd]; rfl)) ?_; clear F a; intro a F
   refine list_val F (wn rfl) rfl rfl (.bool false) (ex_pick_f _ _ _ rfl (F.e rfl) _ (F.e rfl)) ?_; clear F a; intro a F
   refine list_val F (wn rfl) rfl rfl (.bool false) (ex_move _ rfl _ (F.e rfl)) ?_; clear F a; intro a F
   refine list_val F (F.wants 16 false rfl (by kernel_rfl) rfl true rfl) rfl rfl (.string (ST.str (Lib.trimPrefix s [45]))) (ex_move _ rfl _ (F.e rfl)) ?_; clear F a; intro a F
   refine list_val F (F.wants 16 false rfl (by kernel_rfl) rfl true rfl) rfl rfl (.int .u8 ((x.toNat : Nat) : Int)) (ST.ex_ixs 9 _ _ rfl un9 (Lib.trimPrefix s [45]) (F.e rfl) .i64 _ rfl 0 rfl x hx) ?_; clear F a; intro a F
   refine list_val F (F.wants 16 false rfl (by kernel_rfl) rfl true rfl) rfl rfl (.bool true) (ex_bin .eql _ _ _ _ rfl .u8 _ _ (F.e rfl) rfl _ (b_eql (by rw [h48]; rfl))) ?_; clear F a; intro a F
   refine list_val F (F.wants 16 false rfl (by kernel_rfl) rfl true rfl) rfl rfl (.bool true) (ex_move _ rfl _ (F.e rfl)) ?_; clear F a; intro a F
   refine list_val F (F.wants 20 true rfl (by kernel_rfl) rfl true rfl) rfl rfl (.string (ST.str s)) (ex_move _ rfl _ (F.e rfl)) ?_; clear F a; intro a F
   refine list_val F (F.wants 20 true rfl (by kernel_rfl) rfl true rfl) rfl rfl (.bool true) (ST.ex_neqs _ _ _ _ rfl s ([48]) (F.e rfl) rfl true (by rw [decide_eq_false hs1]; rfl)) ?_; clear F a; intro a F
   refine list_val F (F.wants 16 false rfl (by kernel_rfl) rfl true rfl) rfl rfl (.bool true) (ex_pick_t _ _ _ rfl (F.e rfl) _ (F.e rfl)) ?_; clear F a; intro a F
   refine list_val F (wn rfl) rfl rfl (.bool true) (ex_pick_f _ _ _ rfl (F.e rfl) _ (F.e rfl)) ?_; clear F a; intro a F
   refine wpList_nil ?_
   replace F : Fr 33 a [(0, .string (ST.str s)), (2, .int .i64 0), (3, .int .i64 0), (4, .string (ST.str (Lib.trimPrefix s [45]))), (24, .bool true)] := F.keep ⟨rfl, rfl, rfl, rfl, rfl, trivial⟩
   refine then_n ?_
   refine wp_cond_true (F.e rfl) ?_
   refine wp_seq ?_
   refine wp_region_lit ?_
   refine list_val F (wn rfl) rfl rfl (.int .i64 0) (ex_assign _ rfl _ rfl) ?_; clear F a; intro a F
   refine list_val F (wn rfl) rfl rfl (.int .i64 13) (ex_assign _ rfl _ rfl) ?_; clear F a; intro a F
   refine wpList_nil ?_
   replace F : Fr 33 a [(0, .string (ST.str s)), (2, .int .i64 0), (3, .int .i64 13), (4, .string (ST.str (Lib.trimPrefix s [45]))), (24, .bool true)] := F.keep ⟨rfl, rfl, rfl, rfl, rfl, trivial⟩
   refine then_n ?_
   refine wp_ret ?_
   refine then_r ?_
   rw [(n10R_bad hbad)]
   exact ret_tmp2 F rfl rfl rfl ⟨rfl, M.bel⟩
  have hok := bad_not h0 hd hx (fun e => absurd e h48)
  refine wp_region_lit ?_
  refine list_val F (wn rfl) rfl rfl (.string (ST.str (Lib.trimPrefix s [45]))) (ex_move _ rfl _ (F.e rfl)) ?_; clear F a; intro a F
  refine list_val F (wn rfl) rfl rfl (.bool false) (ST.ex_eqls _ _ _ _ rfl (Lib.trimPrefix s [45]) ([] : List UInt8) (F.e rfl) rfl false (decide_eq_false h0)) ?_; clear F a; intro a F
  refine list_val F (wn rfl) rfl rfl (.bool false) (ex_move _ rfl _ (F.e rfl)) ?_; clear F a; intro a F
  refine list_val F (F.wants 11 false rfl (by kernel_rfl) rfl true rfl) rfl rfl (.string (ST.str (Lib.trimPrefix s [45]))) (ex_move _ rfl _ (F.e rfl)) ?_; clear F a; intro a F
  refine list_do (F.wants 11 false rfl (by kernel_rfl) rfl true rfl) (fun K hK => ?_)
  refine ow_call rfl rfl F 25 #[.string (ST.str (Lib.trimPrefix s [45])), .string (ST.str digs)] (ex_call 25 _ _ rfl rfl g3_ent_25 _ (map2 (F.e rfl) rfl)) (Tryd.strings_Trim_set (ST.str (Lib.trimPrefix s [45])) (ST.str digs) _ (by rw [ST.str_size]; omega) (by rw [ST.str_size]; decide) digs_ascii) (fun e v hR => ?_)
  obtain ⟨he, hb⟩ := hR
  rw [ST.str_data, ST.str_data] at he
  refine ⟨.string (ST.str (Lib.trimS (Lib.trimPrefix s [45]) digs)), he, ?_⟩; clear he F a; intro a F
  refine hK _ _ ?_
  clear hK K
  replace M := M.below hb; clear hb; try clear w
  refine list_val F (F.wants 11 false rfl (by kernel_rfl) rfl true rfl) rfl rfl (.bool false) (ST.ex_neqs _ _ _ _ rfl (Lib.trimS (Lib.trimPrefix s [45]) digs) ([] : List UInt8) (F.e rfl) rfl false (by rw [hd]; rfl)) ?_; clear F a; intro a F
  refine list_val F (wn rfl) rfl rfl (.bool false) (ex_pick_f _ _ _ rfl (F.e rfl) _ (F.e rfl)) ?_; clear F a; intro a F
  refine list_val F (wn rfl) rfl rfl (.bool false) (ex_move _ rfl _ (F.e rfl)) ?_; clear F a; intro a F
  refine list_val F (F.wants 16 false rfl (by kernel_rfl) rfl true rfl) rfl rfl (.string (ST.str (Lib.trimPrefix s [45]))) (ex_move _ rfl _ (F.e rfl)) ?_; clear F a; intro a F
  refine list_val F (F.wants 16 false rfl (by kernel_rfl) rfl true rfl) rfl rfl (.int .u8 ((x.toNat : Nat) : Int)) (ST.ex_ixs 9 _ _ rfl un9 (Lib.trimPrefix s [45]) (F.e rfl) .i64 _ rfl 0 rfl x hx) ?_; clear F a; intro a F
  refine list_val F (F.wants 16 false rfl (by kernel_rfl) rfl true rfl) rfl rfl (.bool false) (ex_bin .eql _ _ _ _ rfl .u8 _ _ (F.e rfl) rfl _ (b_eql (by rw [beq_eq_false_iff_ne]; omega))) ?_; clear F a; intro a F
  refine list_val F (F.wants 16 false rfl (by kernel_rfl) rfl true rfl) rfl rfl (.bool false) (ex_move _ rfl _ (F.e rfl)) ?_; clear F a; intro a F
  refine list_skip F (F.wants 20 false rfl (by kernel_rfl) rfl false rfl) rfl rfl ?_; clear F a; intro a F
  refine list_skip F (F.wants 20 false rfl (by kernel_rfl) rfl false rfl) rfl rfl ?_; clear F a; intro a F
  refine list_val F (F.wants 16 false rfl (by kernel_rfl) rfl true rfl) rfl rfl (.bool false) (ex_pick_f _ _ _ rfl (F.e rfl) _ rfl) ?_; clear F a; intro a F
  refine list_val F (wn rfl) rfl rfl (.bool false) (ex_pick_f _ _ _ rfl (F.e rfl) _ (F.e rfl)) ?_; clear F a; intro a F
  refine wpList_nil ?_
  replace F : Fr 33 a [(0, .string (ST.str s)), (2, .int .i64 0), (3, .int .i64 0), (4, .string (ST.str (Lib.trimPrefix s [45]))), (24, .bool false)] := F.keep ⟨rfl, rfl, rfl, rfl, rfl, trivial⟩
  refine then_n ?_
  refine wp_cond_false (F.e rfl) ?_
  refine wp_skip ?_
  refine then_n ?_
  refine wp_seq ?_
  by_cases hp : ∃ v, Lib.parseIntB 64 s = .ok v
  ·
   obtain ⟨v1, hp⟩ := hp
   refine wp_region_lit ?_
   refine list_val F (wn rfl) rfl rfl (.string (ST.str s)) (ex_move _ rfl _ (F.e rfl)) ?_; clear F a; intro a F
   refine list_do (wn rfl) (fun K hK => ?_)
   refine ow_call rfl rfl F 28 #[.string (ST.str s), .int .i64 10, .int .i64 64] (ex_call 28 _ _ rfl rfl g3_ent_28 _ (map3 (F.e rfl) rfl rfl)) (Tryd.strconv_ParseInt_10_at64_ok (ST.str s) (by rw [ST.str_size]; omega) v1 (by rw [ST.str_data]; exact hp) _) (fun e u hR => ?_)
   obtain ⟨he, hp2⟩ := hR
   have hb := pint_below hp2; clear hp2
   refine ⟨.tuple #[.int .i64 v1, .nilIface], he, ?_⟩; clear he F a; intro a F
   refine hK _ _ ?_
   clear hK K
   replace M := M.below hb; clear hb; try clear v
   refine list_val F (wn rfl) rfl rfl (.tuple #[.int .i64 v1, .nilIface]) (ex_move _ rfl _ (F.e rfl)) ?_; clear F a; intro a F
   refine list_val F (wn rfl) rfl rfl (.int .i64 v1) (ex_extract _ _ rfl _ (F.e rfl) _ rfl) ?_; clear F a; intro a F
   refine list_val F (wn rfl) rfl rfl (.nilIface) (ex_extract _ _ rfl _ (F.e rfl) _ rfl) ?_; clear F a; intro a F
   refine list_val F (wn rfl) rfl rfl (.int .i64 v1) (ex_assign _ rfl _ (F.e rfl)) ?_; clear F a; intro a F
   refine list_val F (wn rfl) rfl rfl (.nilIface) (ex_assign _ rfl _ (F.e rfl)) ?_; clear F a; intro a F
   refine wpList_nil ?_
   replace F : Fr 33 a [(0, .string (ST.str s)), (2, .int .i64 0), (3, .int .i64 0), (4, .string (ST.str (Lib.trimPrefix s [45]))), (5, .int .i64 v1), (6, .nilIface), (24, .bool false)] := F.keep ⟨rfl, rfl, rfl, rfl, rfl, rfl, rfl, trivial⟩
   refine then_n ?_
   refine wp_seq ?_
   refine wp_seq ?_
   refine wp_region_lit ?_
   refine list_val F (wn rfl) rfl rfl (.nilIface) (ex_move _ rfl _ (F.e rfl)) ?_; clear F a; intro a F
   refine list_val F (wn rfl) rfl rfl (.bool false) (ex_nilne _ _ rfl (.nilIface) (F.e rfl) rfl false (.inl ⟨rfl, rfl⟩)) ?_; clear F a; intro a F
   refine wpList_nil ?_
   replace F : Fr 33 a [(0, .string (ST.str s)), (2, .int .i64 0), (3, .int .i64 0), (4, .string (ST.str (Lib.trimPrefix s [45]))), (5, .int .i64 v1), (6, .nilIface), (24, .bool false), (31, .bool false)] := F.keep ⟨rfl, rfl, rfl, rfl, rfl, rfl, rfl, rfl, trivial⟩
   refine then_n ?_
   refine wp_cond_false (F.e rfl) ?_
   refine wp_skip ?_
   refine then_n ?_
   refine wp_seq ?_
   refine wp_region_lit ?_
   refine list_val F (wn rfl) rfl rfl (.int .i64 v1) (ex_move _ rfl _ (F.e rfl)) ?_; clear F a; intro a F
   refine list_val F (wn rfl) rfl rfl (.int .i64 v1) (ex_assign _ rfl _ (F.e rfl)) ?_; clear F a; intro a F
   refine list_val F (wn rfl) rfl rfl (.int .i64 0) (ex_assign _ rfl _ rfl) ?_; clear F a; intro a F
   refine wpList_nil ?_
   replace F : Fr 33 a [(0, .string (ST.str s)), (2, .int .i64 v1), (3, .int .i64 0), (4, .string (ST.str (Lib.trimPrefix s [45]))), (5, .int .i64 v1), (6, .nilIface), (24, .bool false), (31, .bool false)] := F.keep ⟨rfl, rfl, rfl, rfl, rfl, rfl, rfl, rfl, trivial⟩
   refine then_n ?_
   refine wp_ret ?_
   rw [(n10R_ok hok hp)]
   exact ret_tmp2 F rfl rfl rfl ⟨rfl, M.bel⟩
  have hp : Lib.parseIntB 64 s = .range := (n10_nosyn hok).resolve_left hp
  refine wp_region_lit ?_
  refine list_val F (wn rfl) rfl rfl (.string (ST.str s)) (ex_move _ rfl _ (F.e rfl)) ?_; clear F a; intro a F
  refine list_do (wn rfl) (fun K hK => ?_)
  obtain ⟨ev, hv1, hv2⟩ := (hE.below M.bel).ev
  refine ow_call rfl rfl F 28 #[.string (ST.str s), .int .i64 10, .int .i64 64] (ex_call 28 _ _ rfl rfl g3_ent_28 _ (map3 (F.e rfl) rfl rfl)) (Tryd.strconv_ParseInt_10_at64_range (ST.str s) (by rw [ST.str_size]; omega) (by rw [ST.str_data]; exact hp) ev _ hv1 hv2) (fun e u hR => ?_)
  obtain ⟨N_, he, _, _, hb⟩ := hR
  generalize hin : Lib.intSat 64 (ST.str s).data.toList = q_ at he
  clear hv1 hin
  refine ⟨.tuple #[.int .i64 q_, .iface 93 (.pointer (some ⟨N_, 0, none⟩))], he, ?_⟩; clear he F a; intro a F
  refine hK _ _ ?_
  clear hK K
  replace M := M.below hb; clear hb; try clear v
  refine list_val F (wn rfl) rfl rfl (.tuple #[.int .i64 q_, .iface 93 (.pointer (some ⟨N_, 0, none⟩))]) (ex_move _ rfl _ (F.e rfl)) ?_; clear F a; intro a F
  refine list_val F (wn rfl) rfl rfl (.int .i64 q_) (ex_extract _ _ rfl _ (F.e rfl) _ rfl) ?_; clear F a; intro a F
  refine list_val F (wn rfl) rfl rfl (.iface 93 (.pointer (some ⟨N_, 0, none⟩))) (ex_extract _ _ rfl _ (F.e rfl) _ rfl) ?_; clear F a; intro a F
  refine list_val F (wn rfl) rfl rfl (.int .i64 q_) (ex_assign _ rfl _ (F.e rfl)) ?_; clear F a; intro a F
  refine list_val F (wn rfl) rfl rfl (.iface 93 (.pointer (some ⟨N_, 0, none⟩))) (ex_assign _ rfl _ (F.e rfl)) ?_; clear F a; intro a F
  refine wpList_nil ?_
  replace F : Fr 33 a [(0, .string (ST.str s)), (2, .int .i64 0), (3, .int .i64 0), (4, .string (ST.str (Lib.trimPrefix s [45]))), (5, .int .i64 q_), (6, .iface 93 (.pointer (some ⟨N_, 0, none⟩))), (24, .bool false)] := F.keep ⟨rfl, rfl, rfl, rfl, rfl, rfl, rfl, trivial⟩
  refine then_n ?_
  refine wp_seq ?_
  refine wp_seq ?_
  refine wp_region_lit ?_
  refine list_val F (wn rfl) rfl rfl (.iface 93 (.pointer (some ⟨N_, 0, none⟩))) (ex_move _ rfl _ (F.e rfl)) ?_; clear F a; intro a F
  refine list_val F (wn rfl) rfl rfl (.bool true) (ex_nilne _ _ rfl (.iface 93 (.pointer (some ⟨N_, 0, none⟩))) (F.e rfl) rfl true (.inr ⟨⟨_, _, rfl⟩, rfl⟩)) ?_; clear F a; intro a F
  refine wpList_nil ?_
  replace F : Fr 33 a [(0, .string (ST.str s)), (2, .int .i64 0), (3, .int .i64 0), (4, .string (ST.str (Lib.trimPrefix s [45]))), (5, .int .i64 q_), (6, .iface 93 (.pointer (some ⟨N_, 0, none⟩))), (24, .bool false), (31, .bool true)] := F.keep ⟨rfl, rfl, rfl, rfl, rfl, rfl, rfl, rfl, trivial⟩
  refine then_n ?_
  refine wp_cond_true (F.e rfl) ?_
  refine wp_seq ?_
  refine wp_region_lit ?_
  refine list_val F (wn rfl) rfl rfl (.int .i64 0) (ex_assign _ rfl _ rfl) ?_; clear F a; intro a F
  refine list_val F (wn rfl) rfl rfl (.int .i64 14) (ex_assign _ rfl _ rfl) ?_; clear F a; intro a F
  refine wpList_nil ?_
  replace F : Fr 33 a [(0, .string (ST.str s)), (2, .int .i64 0), (3, .int .i64 14), (4, .string (ST.str (Lib.trimPrefix s [45]))), (5, .int .i64 q_), (6, .iface 93 (.pointer (some ⟨N_, 0, none⟩))), (24, .bool false), (31, .bool true)] := F.keep ⟨rfl, rfl, rfl, rfl, rfl, rfl, rfl, rfl, trivial⟩
  refine then_n ?_
  refine wp_ret ?_
  refine then_r ?_
  rw [(n10R_range hok hp)]
  exact ret_tmp2 F rfl rfl rfl ⟨rfl, M.bel⟩
 have hbad := bad_digs hd
 refine wp_region_lit ?_
 refine list_val F (wn rfl) rfl rfl (.string (ST.str (Lib.trimPrefix s [45]))) (ex_move _ rfl _ (F.e rfl)) ?_; clear F a; intro a F
 refine list_val F (wn rfl) rfl rfl (.bool false) (ST.ex_eqls _ _ _ _ rfl (Lib.trimPrefix s [45]) ([] : List UInt8) (F.e rfl) rfl false (decide_eq_false h0)) ?_; clear F a; intro a F
 refine list_val F (wn rfl) rfl rfl (.bool false) (ex_move _ rfl _ (F.e rfl)) ?_; clear F a; intro a F
 refine list_val F (F.wants 11 false rfl (by kernel_rfl) rfl true rfl) rfl rfl (.string (ST.str (Lib.trimPrefix s [45]))) (ex_move _ rfl _ (F.e rfl)) ?_; clear F a; intro a F
 refine list_do (F.wants 11 false rfl (by kernel_rfl) rfl true rfl) (fun K hK => ?_)
 refine ow_call rfl rfl F 25 #[.string (ST.str (Lib.trimPrefix s [45])), .string (ST.str digs)] (ex_call 25 _ _ rfl rfl g3_ent_25 _ (map2 (F.e rfl) rfl)) (Tryd.strings_Trim_set (ST.str (Lib.trimPrefix s [45])) (ST.str digs) _ (by rw [ST.str_size]; omega) (by rw [ST.str_size]; decide) digs_ascii) (fun e v hR => ?_)
 obtain ⟨he, hb⟩ := hR
 rw [ST.str_data, ST.str_data] at he
 refine ⟨.string (ST.str (Lib.trimS (Lib.trimPrefix s [45]) digs)), he, ?_⟩; clear he F a; intro a F
 refine hK _ _ ?_
 clear hK K
 replace M := M.below hb; clear hb; try clear w
 refine list_val F (F.wants 11 false rfl (by kernel_rfl) rfl true rfl) rfl rfl (.bool true) (ST.ex_neqs _ _ _ _ rfl (Lib.trimS (Lib.trimPrefix s [45]) digs) ([] : List UInt8) (F.e rfl) rfl true (by rw [decide_eq_false hd]; rfl)) ?_; clear F a; intro a F
 refine list_val F (wn rfl) rfl rfl (.bool true) (ex_pick_f _ _ _ rfl (F.e rfl) _ (F.e rfl)) ?_; clear F a; intro a F
 refine list_val F (wn rfl) rfl rfl (.bool true) (ex_move _ rfl _ (F.e rfl)) ?_; clear F a; intro a F
 refine list_skip F (F.wants 16 true rfl (by kernel_rfl) rfl false rfl) rfl rfl ?_; clear F a; intro a F
 refine list_skip F (F.wants 16 true rfl (by kernel_rfl) rfl false rfl) rfl rfl ?_; clear F a; intro a F
 refine list_skip F (F.wants 16 true rfl (by kernel_rfl) rfl false rfl) rfl rfl ?_; clear F a; intro a F
 refine list_skip F (F.wants 16 true rfl (by kernel_rfl) rfl false rfl) rfl rfl ?_; clear F a; intro a F
 refine list_skip F (F.wants0 20 rfl (by kernel_rfl) rfl) rfl rfl ?_; clear F a; intro a F
 refine list_skip F (F.wants0 20 rfl (by kernel_rfl) rfl) rfl rfl ?_; clear F a; intro a F
 refine list_skip F (F.wants 16 true rfl (by kernel_rfl) rfl false rfl) rfl rfl ?_; clear F a; intro a F
 refine list_val F (wn rfl) rfl rfl (.bool true) (ex_pick_t _ _ _ rfl (F.e rfl) _ rfl) ?_; clear F a; intro a F
 refine wpList_nil ?_
 replace F : Fr 33 a [(0, .string (ST.str s)), (2, .int .i64 0), (3, .int .i64 0), (4, .string (ST.str (Lib.trimPrefix s [45]))), (24, .bool true)] := F.keep ⟨rfl, rfl, rfl, rfl, rfl, trivial⟩
 refine then_n ?_
 refine wp_cond_true (F.e rfl) ?_
 refine wp_seq ?_
 refine wp_region_lit ?_
 refine list_val F (wn rfl) rfl rfl (.int .i64 0) (ex_assign _ rfl _ rfl) ?_; clear F a; intro a F
 refine list_val F (wn rfl) rfl rfl (.int .i64 13) (ex_assign _ rfl _ rfl) ?_; clear F a; intro a F
 refine wpList_nil ?_
 replace F : Fr 33 a [(0, .string (ST.str s)), (2, .int .i64 0), (3, .int .i64 13), (4, .string (ST.str (Lib.trimPrefix s [45]))), (24, .bool true)] := F.keep ⟨rfl, rfl, rfl, rfl, rfl, trivial⟩
 refine then_n ?_
 refine wp_ret ?_
 refine then_r ?_
 rw [(n10R_bad hbad)]
 exact ret_tmp2 F rfl rfl rfl ⟨rfl, M.bel⟩
theorem g3_follows_mixedOrders : Tryd.prog.follows .mixedOrders = true := by kernel_rfl
theorem g3_ent_26 : ent? Tryd.prog 26 = true := by kernel_rfl
theorem g3_cv_3_5_u8 : cv? Tryd.prog 3 5 .u8 = true := by kernel_rfl
set_option maxHeartbeats 1000000 in
set_option maxRecDepth 100000 in
theorem bytes16_any (s : List UInt8) (w : World) (hmx : s.length ≤ 1000001) :
    Calls Tryd.prog 16 #[.string (ST.str s)] w fun r w' => ∃ A' c', r = .returned (.tuple #[.slice A' (b16R s).1.length c', .int .i64 (b16R s).2]) ∧ Ow ST.kB 5 w' w.heap.size (.slice A' (b16R s).1.length c') (b16R s).1 ∧ Below w.heap.size w w' := by
 refine calls_start Tryd.func16 rfl rfl rfl (fun a F => ?_)
 have M : Mm w w [] := Mm.nil w
 refine wp_seq ?_
 refine wp_region_lit ?_
 refine list_val F (wn rfl) rfl rfl (.slice none 0 0) (ex_assign _ rfl _ rfl) ?_; clear F a; intro a F
 refine list_val F (wn rfl) rfl rfl (.int .i64 0) (ex_assign _ rfl _ rfl) ?_; clear F a; intro a F
 refine wpList_nil ?_
 replace F : Fr 41 a [(0, .string (ST.str s)), (2, .slice none 0 0), (3, .int .i64 0)] := F.keep ⟨rfl, rfl, rfl, trivial⟩
 refine then_n ?_
 refine wp_seq ?_
 refine wp_block ?_
 refine wp_seq ?_
 by_cases hd : Lib.trimS s sHex = []
 ·
  refine wp_region_lit ?_
  refine list_val F (wn rfl) rfl rfl (.string (ST.str s)) (ex_move _ rfl _ (F.e rfl)) ?_; clear F a; intro a F
  refine list_do (wn rfl) (fun K hK => ?_)
  refine ow_call rfl rfl F 25 #[.string (ST.str s), .string (ST.str sHex)] (ex_call 25 _ _ rfl rfl g3_ent_25 _ (map2 (F.e rfl) rfl)) (Tryd.strings_Trim_set (ST.str s) (ST.str sHex) _ (by rw [ST.str_size]; omega) (by rw [ST.str_size]; decide) hex_ascii) (fun e v hR => ?_)
  obtain ⟨he, hb⟩ := hR
  rw [ST.str_data, ST.str_data] at he
  refine ⟨.string (ST.str (Lib.trimS s sHex)), he, ?_⟩; clear he F a; intro a F
  refine hK _ _ ?_
  clear hK K
  replace M := M.below hb; clear hb; try clear w
  refine list_val F (wn rfl) rfl rfl (.bool false) (ST.ex_neqs _ _ _ _ rfl (Lib.trimS s sHex) ([] : List UInt8) (F.e rfl) rfl false (by rw [hd]; rfl)) ?_; clear F a; intro a F
  refine list_val F (wn rfl) rfl rfl (.bool false) (ex_assign _ rfl _ (F.e rfl)) ?_; clear F a; intro a F
  refine wpList_nil ?_
  replace F : Fr 41 a [(0, .string (ST.str s)), (2, .slice none 0 0), (3, .int .i64 0), (6, .bool false)] := F.keep ⟨rfl, rfl, rfl, rfl, trivial⟩
  refine then_n ?_
  refine wp_cond_false (F.e rfl) ?_
  refine wp_seq ?_
  by_cases hm2 : s.length % 2 = 0
  ·
   have hhx := (trimS_nil _ _).1 hd
   refine wp_region_lit ?_
   refine list_val F (wn rfl) rfl rfl (.string (ST.str s)) (ex_move _ rfl _ (F.e rfl)) ?_; clear F a; intro a F
   refine list_val F (wn rfl) rfl rfl (.int .i64 ((s.length : Nat) : Int)) (ST.ex_lens _ 9 rfl un9 s (F.e rfl)) ?_; clear F a; intro a F
   refine list_val F (wn rfl) rfl rfl (.int .i64 ((s.length % 2 : Nat) : Int)) (ex_bin .rem _ _ _ _ rfl .i64 _ _ (F.e rfl) rfl _ (b_rem (by decide) (i_rem _ 2))) ?_; clear F a; intro a F
   refine list_val F (wn rfl) rfl rfl (.bool false) (ex_bin .neq _ _ _ _ rfl .i64 _ _ (F.e rfl) rfl _ (b_neq (by rw [hm2]; rfl))) ?_; clear F a; intro a F
   refine list_val F (wn rfl) rfl rfl (.bool false) (ex_assign _ rfl _ (F.e rfl)) ?_; clear F a; intro a F
   refine wpList_nil ?_
   replace F : Fr 41 a [(0, .string (ST.str s)), (2, .slice none 0 0), (3, .int .i64 0), (6, .bool false), (10, .bool false)] := F.keep ⟨rfl, rfl, rfl, rfl, rfl, trivial⟩
   refine then_n ?_
   refine wp_cond_false (F.e rfl) ?_
   refine wp_skip ?_
   refine in_n ?_
   refine then_n ?_
   refine wp_seq ?_
   refine wp_region_lit ?_
   refine list_val F (wn rfl) rfl rfl (.string (ST.str s)) (ex_move _ rfl _ (F.e rfl)) ?_; clear F a; intro a F
   refine list_val F (wn rfl) rfl rfl (.int .i64 ((s.length : Nat) : Int)) (ST.ex_lens _ 9 rfl un9 s (F.e rfl)) ?_; clear F a; intro a F
   refine list_val F (wn rfl) rfl rfl (.int .i64 ((s.length / 2 : Nat) : Int)) (ex_bin .quo _ _ _ _ rfl .i64 _ _ (F.e rfl) rfl _ (b_quo (by decide) (i_quo _ 2 (by omega)))) ?_; clear F a; intro a F
   refine list_do (wn rfl) (fun K hK => ?_)
   refine ow_make0 (enc := ST.bc) (m := 1) (hl := ST.bc_len) (h1 := ST.bc_one) F M Tryd.underlying28 i5 rfl rfl _ _ rfl rfl _ (F.e rfl) (s.length / 2) rfl (by omega) (by show _ ≤ 9223372036854775807; omega) ?_
   clear F M a; intro a g18 u F M O_x hb
   refine hK _ _ ?_
   clear hK K
   clear hb; try clear v
   refine list_val F (wn rfl) rfl rfl (.slice (some ⟨g18, 0, none⟩) 0 (s.length / 2)) (ex_assign _ rfl _ (F.e rfl)) ?_; clear F a; intro a F
   refine wpList_nil ?_
   replace F : Fr 41 a [(0, .string (ST.str s)), (2, .slice none 0 0), (3, .int .i64 0), (4, .slice (some ⟨g18, 0, none⟩) 0 (s.length / 2)), (6, .bool false), (10, .bool false)] := F.keep ⟨rfl, rfl, rfl, rfl, rfl, rfl, trivial⟩
   refine then_n ?_
   refine wp_seq ?_
   refine wp_seq ?_
   refine wp_region_lit ?_
   refine list_val F (wn rfl) rfl rfl (.int .i64 0) (ex_assign _ rfl _ rfl) ?_; clear F a; intro a F
   refine wpList_nil ?_
   replace F : Fr 41 a [(0, .string (ST.str s)), (2, .slice none 0 0), (3, .int .i64 0), (4, .slice (some ⟨g18, 0, none⟩) 0 (s.length / 2)), (5, .int .i64 0), (6, .bool false), (10, .bool false)] := F.keep ⟨rfl, rfl, rfl, rfl, rfl, rfl, rfl, trivial⟩
   refine then_n ?_
   refine wp_block ?_
   refine wp_loopN (fun mq ar wr => ∃ (j : Nat), ∃ (A_o : Option Addr), ∃ (c_o : Nat), Fr 41 ar [(0, .string (ST.str s)), (2, .slice none 0 0), (3, .int .i64 0), (4, .slice A_o ((un16 (s.take (2 * j))).length) c_o), (5, .int .i64 ((2 * j : Nat) : Int)), (6, .bool false), (10, .bool false)] ∧ Mm w wr [] ∧ Ow ST.kB 5 wr w.heap.size (.slice A_o ((un16 (s.take (2 * j))).length) c_o) (un16 (s.take (2 * j))) ∧ 2 * j ≤ s.length ∧ mq + j = s.length) s.length ?_ ?_
   ·
    exact ⟨0, (some ⟨g18, 0, none⟩), (s.length / 2), F.keep ⟨rfl, rfl, rfl, rfl, rfl, rfl, rfl, trivial⟩, M, O_x, (Nat.zero_le _), (by omega)⟩
   clear F M a O_x
   rintro mq a v ⟨j, A_o, c_o, F, M, O_x, hi, hq⟩; try clear u
   by_cases hin : 2 * j < s.length
   ·
    obtain ⟨x, hx⟩ : ∃ x, s[2 * j]? = some x := ⟨_, List.getElem?_eq_getElem (by omega)⟩
    obtain ⟨y, hy⟩ : ∃ x, s[2 * j + 1]? = some x := ⟨_, List.getElem?_eq_getElem (by omega)⟩
    have hxk := hex_ix (hhx x (List.mem_of_getElem? hx))
    have hyk := hex_ix (hhx y (List.mem_of_getElem? hy))
    have hx16 := hxk.2
    have hy16 := hyk.2
    refine wp_seq ?_
    refine wp_seq ?_
    refine wp_region_lit ?_
    refine list_val F (wn rfl) rfl rfl (.int .i64 ((2 * j : Nat) : Int)) (ex_move _ rfl _ (F.e rfl)) ?_; clear F a; intro a F
    refine list_val F (wn rfl) rfl rfl (.string (ST.str s)) (ex_move _ rfl _ (F.e rfl)) ?_; clear F a; intro a F
    refine list_val F (wn rfl) rfl rfl (.int .i64 ((s.length : Nat) : Int)) (ST.ex_lens _ 9 rfl un9 s (F.e rfl)) ?_; clear F a; intro a F
    refine list_val F (wn rfl) rfl rfl (.bool true) (ex_bin .lss _ _ _ _ rfl .i64 _ _ (F.e rfl) (F.e rfl) _ (b_lss (decide_eq_true (by omega)))) ?_; clear F a; intro a F
    refine wpList_nil ?_
    replace F : Fr 41 a [(0, .string (ST.str s)), (2, .slice none 0 0), (3, .int .i64 0), (4, .slice A_o ((un16 (s.take (2 * j))).length) c_o), (5, .int .i64 ((2 * j : Nat) : Int)), (6, .bool false), (10, .bool false), (22, .bool true)] := F.keep ⟨rfl, rfl, rfl, rfl, rfl, rfl, rfl, rfl, trivial⟩
    refine then_n ?_
    refine wp_cond_true (F.e rfl) ?_
    refine wp_skip ?_
    refine then_n ?_
    refine wp_seq ?_
    refine wp_block ?_
    refine wp_only (fun ar wr => ∃ (g38 : Nat), ∃ (A_39 : Option Addr), ∃ (c_39 : Nat), Fr 41 ar [(0, .string (ST.str s)), (2, .slice none 0 0), (3, .int .i64 0), (4, .slice A_39 (((un16 (s.take (2 * j))) ++ [(UInt8.ofNat (hv x * 16 + hv y))]).length) c_39), (5, .int .i64 ((2 * j : Nat) : Int)), (6, .bool false), (10, .bool false), (22, .bool true)] ∧ Mm w wr [] ∧ Ow ST.kB 5 wr w.heap.size (.slice A_39 (((un16 (s.take (2 * j))) ++ [(UInt8.ofNat (hv x * 16 + hv y))]).length) c_39) ((un16 (s.take (2 * j))) ++ [(UInt8.ofNat (hv x * 16 + hv y))])) ?_ ?_
    ·
     refine region_anyM g3_follows_mixedOrders M [] (fun w' M => (by refine M.pick' [] _ ?_ (by decide); exact trivial)) ?_; clear M; intro wD M hb
     replace O_x := O_x.below hb
     clear hb; try clear v
     have hS : Mm w wD [] := (by refine M.pick' [] _ ?_ (by decide); exact trivial)
     refine any_val F 0 rfl (by kernel_rfl) (wn rfl) rfl rfl (.slice A_o ((un16 (s.take (2 * j))).length) c_o) (fun w' hS' => ex_move _ rfl _ (F.e rfl)) hS ?_; clear F a; intro a F
     refine any_val F 1 rfl (by kernel_rfl) (wn rfl) rfl rfl (.string (ST.str s)) (fun w' hS' => ex_move _ rfl _ (F.e rfl)) hS ?_; clear F a; intro a F
     refine any_val F 2 rfl (by kernel_rfl) (wn rfl) rfl rfl (.int .i64 ((2 * j : Nat) : Int)) (fun w' hS' => ex_move _ rfl _ (F.e rfl)) hS ?_; clear F a; intro a F
     refine any_val F 3 rfl (by kernel_rfl) (wn rfl) rfl rfl (.int .u8 ((x.toNat : Nat) : Int)) (fun w' hS' => ST.ex_ixs 9 _ _ rfl un9 s (F.e rfl) .i64 _ (F.e rfl) (2 * j) rfl x hx) hS ?_; clear F a; intro a F
     refine any_val F 6 rfl (by kernel_rfl) (wn rfl) rfl rfl (.string (ST.str s)) (fun w' hS' => ex_move _ rfl _ (F.e rfl)) hS ?_; clear F a; intro a F
     refine any_val F 7 rfl (by kernel_rfl) (wn rfl) rfl rfl (.int .i64 ((2 * j : Nat) : Int)) (fun w' hS' => ex_move _ rfl _ (F.e rfl)) hS ?_; clear F a; intro a F
     refine any_val F 8 rfl (by kernel_rfl) (wn rfl) rfl rfl (.int .i64 ((2 * j + 1 : Nat) : Int)) (fun w' hS' => ex_bin .add _ _ _ _ rfl .i64 _ _ (F.e rfl) rfl _ (b_add ((w_i64 (by omega) (by omega)).trans (by omega)))) hS ?_; clear F a; intro a F
     refine any_val F 9 rfl (by kernel_rfl) (wn rfl) rfl rfl (.int .u8 ((y.toNat : Nat) : Int)) (fun w' hS' => ST.ex_ixs 9 _ _ rfl un9 s (F.e rfl) .i64 _ (F.e rfl) (2 * j + 1) rfl y hy) hS ?_; clear F a; intro a F
     refine any_ready [4] (by kernel_rfl) (by simp) ?_
     refine ready_do rfl (wn rfl) (fun K hK => ?_) AllReadyH.nil
     refine ow_call rfl rfl F 26 #[.string (ST.str sHex), .int .u8 ((x.toNat : Nat) : Int)] (ex_call 26 _ _ rfl rfl g3_ent_26 _ (map2 rfl (F.e rfl))) (Tryd.strings_IndexByte (ST.str sHex) _ _) (fun e v hR => ?_)
     obtain ⟨he, hw⟩ := hR
     rw [ST.str_data, byte_back, index_some hxk.1] at he
     refine ⟨.int .i64 ((hv x : Nat) : Int), he, ?_⟩; clear he F a; intro a F
     replace hw := hw.symm; subst hw
     replace hS : Mm w wD [] := (by refine M.pick' [] _ ?_ (by decide); exact trivial)
     refine hK _ _ hS ?_
     clear hK K
     refine any_val F 5 rfl (by kernel_rfl) (wn rfl) rfl rfl (.int .i64 (((hv x * 16) : Nat) : Int)) (fun w' hS' => ST.ex_shlN _ _ _ _ rfl .i64 .u64 (hv x) 4 _ (F.e rfl) rfl rfl (by show _ ≤ 64; omega) (hv x * 16) rfl (w_i64 (by omega) (by omega))) hS ?_; clear F a; intro a F
     refine any_ready [10] (by kernel_rfl) (by simp) ?_
     refine ready_do rfl (wn rfl) (fun K hK => ?_) AllReadyH.nil
     refine ow_call rfl rfl F 26 #[.string (ST.str sHex), .int .u8 ((y.toNat : Nat) : Int)] (ex_call 26 _ _ rfl rfl g3_ent_26 _ (map2 rfl (F.e rfl))) (Tryd.strings_IndexByte (ST.str sHex) _ _) (fun e v hR => ?_)
     obtain ⟨he, hw⟩ := hR
     rw [ST.str_data, byte_back, index_some hyk.1] at he
     refine ⟨.int .i64 ((hv y : Nat) : Int), he, ?_⟩; clear he F a; intro a F
     replace hw := hw.symm; subst hw
     replace hS : Mm w wD [] := (by refine M.pick' [] _ ?_ (by decide); exact trivial)
     refine hK _ _ hS ?_
     clear hK K
     refine any_val F 11 rfl (by kernel_rfl) (wn rfl) rfl rfl (.int .i64 (((hv x * 16 + hv y) : Nat) : Int)) (fun w' hS' => ST.ex_orN _ _ _ _ rfl .i64 (hv x * 16) (hv y) (F.e rfl) (F.e rfl) (by show _ < 18446744073709551616; omega) (by show _ < 18446744073709551616; omega) (hv x * 16 + hv y) (or16h _ _ hy16) (w_i64 (by omega) (by omega))) hS ?_; clear F a; intro a F
     refine any_val F 12 rfl (by kernel_rfl) (wn rfl) rfl rfl (.int .u8 (((UInt8.ofNat (hv x * 16 + hv y)).toNat : Nat) : Int)) (fun w' hS' => ex_conv _ _ _ rfl _ .u8 g3_cv_3_5_u8 _ (F.e rfl) _ (by rw [o8 _ (by omega)]; exact w_u8 (by omega) (by omega))) hS ?_; clear F a; intro a F
     refine any_ready [13] (by kernel_rfl) (by simp) ?_
     refine ready_do rfl (wn rfl) (fun K hK => ?_) AllReadyH.nil
     refine ow_bslice F M rfl rfl 28 1 _ rfl #[(0, .int .u8 (((UInt8.ofNat (hv x * 16 + hv y)).toNat : Nat) : Int))] (parts1 (F.e rfl)) (([(UInt8.ofNat (hv x * 16 + hv y))].flatMap ST.bc).toArray) 5 (newby1 (UInt8.ofNat (hv x * 16 + hv y)) _) ?_
     clear F M a; intro a g38 v F M hb hg
     replace hS : Mm w v [] := (by refine M.pick' [] _ ?_ (by decide); exact trivial)
     refine hK _ _ hS ?_
     clear hK K
     replace O_x := O_x.below hb
     clear hb hg; try clear wD
     refine any_ready [14] (by kernel_rfl) (by simp) ?_
     refine ready_do rfl (wn rfl) (fun K hK => ?_) AllReadyH.nil
     have hxx := C_bytes (l := [(UInt8.ofNat (hv x * 16 + hv y))]) (by simp) (M.at (i := 0) rfl)
     replace M : Mm w v [] := (by refine M.pick' [] _ ?_ (by decide); exact trivial)
     refine og_app F M Tryd.underlying28 i5 z5s (by decide) (by decide) (Nat.le_refl _) M.bel.size trivial rfl rfl rfl _ _ rfl (.slice A_o ((un16 (s.take (2 * j))).length) c_o) (un16 (s.take (2 * j))) ([(UInt8.ofNat (hv x * 16 + hv y))]) ((un16 (s.take (2 * j))) ++ [(UInt8.ofNat (hv x * 16 + hv y))]) rfl (some ⟨g38, 0, none⟩) 1 1 (F.e rfl) (F.e rfl) O_x (hxx) (by have h_ := un16_len (s.take (2 * j)); rw [List.length_take] at h_; omega) ?_
     clear F a; have Mo := M; clear M; intro a A_39 c_39 u F M Oz hgr
     replace hS : Mm w u [] := (by refine M.pick' [] _ ?_ (by decide); exact trivial)
     refine hK _ _ hS ?_
     clear hK K
     clear O_x Mo hgr; have O_x := Oz; clear Oz; try clear v
     clear hxx
     refine any_val F 15 rfl (by kernel_rfl) (wn rfl) rfl rfl (.slice A_39 (((un16 (s.take (2 * j))) ++ [(UInt8.ofNat (hv x * 16 + hv y))]).length) c_39) (fun w' hS' => ex_assign _ rfl _ (F.e rfl)) hS ?_; clear F a; intro a F
     refine any_done (by kernel_rfl) ?_
     exact ⟨g38, A_39, c_39, F.keep ⟨rfl, rfl, rfl, rfl, rfl, rfl, rfl, rfl, trivial⟩, (by refine M.pick' [] _ ?_ (by decide); exact trivial), O_x⟩
    clear F M a O_x
    intro a u hR; obtain ⟨g38, A_39, c_39, F, M, O_x⟩ := hR; try clear v
    refine in_n ?_
    refine then_n ?_
    refine wp_region_lit ?_
    refine list_val F (wn rfl) rfl rfl (.int .i64 ((2 * j : Nat) : Int)) (ex_move _ rfl _ (F.e rfl)) ?_; clear F a; intro a F
    refine list_val F (wn rfl) rfl rfl (.int .i64 ((2 * j + 2 : Nat) : Int)) (ex_bin .add _ _ _ _ rfl .i64 _ _ (F.e rfl) rfl _ (b_add ((w_i64 (by omega) (by omega)).trans (by omega)))) ?_; clear F a; intro a F
    refine list_val F (wn rfl) rfl rfl (.int .i64 ((2 * j + 2 : Nat) : Int)) (ex_assign _ rfl _ (F.e rfl)) ?_; clear F a; intro a F
    refine wpList_nil ?_
    replace F : Fr 41 a [(0, .string (ST.str s)), (2, .slice none 0 0), (3, .int .i64 0), (4, .slice A_39 (((un16 (s.take (2 * j))) ++ [(UInt8.ofNat (hv x * 16 + hv y))]).length) c_39), (5, .int .i64 ((2 * j + 2 : Nat) : Int)), (6, .bool false), (10, .bool false), (22, .bool true)] := F.keep ⟨rfl, rfl, rfl, rfl, rfl, rfl, rfl, rfl, trivial⟩
    refine then_n ?_
    have htk := un16_snoc (l := s.take (2 * j)) (a := x) (b := y) (by rw [List.length_take]; omega)
    rw [← take_two hx hy, show 2 * j + 2 = 2 * (j + 1) by omega] at htk
    rw [← htk] at F O_x
    rw [show 2 * j + 2 = 2 * (j + 1) by omega] at F
    exact ⟨s.length - (j + 1), by omega, (j + 1), A_39, c_39, F.keep ⟨rfl, rfl, rfl, rfl, rfl, rfl, rfl, trivial⟩, (by refine M.pick' [] _ ?_ (by decide); exact trivial), O_x, (by omega), (by omega)⟩
   have hj2 : 2 * j = s.length := by omega
   rw [hj2, List.take_length] at F O_x
   refine wp_seq ?_
   refine wp_seq ?_
   refine wp_region_lit ?_
   refine list_val F (wn rfl) rfl rfl (.int .i64 ((s.length : Nat) : Int)) (ex_move _ rfl _ (F.e rfl)) ?_; clear F a; intro a F
   refine list_val F (wn rfl) rfl rfl (.string (ST.str s)) (ex_move _ rfl _ (F.e rfl)) ?_; clear F a; intro a F
   refine list_val F (wn rfl) rfl rfl (.int .i64 ((s.length : Nat) : Int)) (ST.ex_lens _ 9 rfl un9 s (F.e rfl)) ?_; clear F a; intro a F
   refine list_val F (wn rfl) rfl rfl (.bool false) (ex_bin .lss _ _ _ _ rfl .i64 _ _ (F.e rfl) (F.e rfl) _ (b_lss (decide_eq_false (by omega)))) ?_; clear F a; intro a F
   refine wpList_nil ?_
   replace F : Fr 41 a [(0, .string (ST.str s)), (2, .slice none 0 0), (3, .int .i64 0), (4, .slice A_o ((un16 s).length) c_o), (5, .int .i64 ((s.length : Nat) : Int)), (6, .bool false), (10, .bool false), (22, .bool false)] := F.keep ⟨rfl, rfl, rfl, rfl, rfl, rfl, rfl, rfl, trivial⟩
   refine then_n ?_
   refine wp_cond_false (F.e rfl) ?_
   refine wp_exit ?_
   refine then_x ?_
   refine then_x ?_
   refine in_hit ?_
   refine then_n ?_
   refine wp_seq ?_
   refine wp_region_lit ?_
   refine list_val F (wn rfl) rfl rfl (.slice A_o ((un16 s).length) c_o) (ex_move _ rfl _ (F.e rfl)) ?_; clear F a; intro a F
   refine list_val F (wn rfl) rfl rfl (.slice A_o ((un16 s).length) c_o) (ex_assign _ rfl _ (F.e rfl)) ?_; clear F a; intro a F
   refine list_val F (wn rfl) rfl rfl (.int .i64 0) (ex_assign _ rfl _ rfl) ?_; clear F a; intro a F
   refine wpList_nil ?_
   replace F : Fr 41 a [(0, .string (ST.str s)), (2, .slice A_o ((un16 s).length) c_o), (3, .int .i64 0), (4, .slice A_o ((un16 s).length) c_o), (5, .int .i64 ((s.length : Nat) : Int)), (6, .bool false), (10, .bool false), (22, .bool false)] := F.keep ⟨rfl, rfl, rfl, rfl, rfl, rfl, rfl, rfl, trivial⟩
   refine then_n ?_
   refine wp_ret ?_
   rw [b16_ok hd hm2]
   exact ret_tmp2 F rfl rfl rfl ⟨_, _, rfl, O_x, M.bel⟩
  refine wp_region_lit ?_
  refine list_val F (wn rfl) rfl rfl (.string (ST.str s)) (ex_move _ rfl _ (F.e rfl)) ?_; clear F a; intro a F
  refine list_val F (wn rfl) rfl rfl (.int .i64 ((s.length : Nat) : Int)) (ST.ex_lens _ 9 rfl un9 s (F.e rfl)) ?_; clear F a; intro a F
  refine list_val F (wn rfl) rfl rfl (.int .i64 ((s.length % 2 : Nat) : Int)) (ex_bin .rem _ _ _ _ rfl .i64 _ _ (F.e rfl) rfl _ (b_rem (by decide) (i_rem _ 2))) ?_; clear F a; intro a F
  refine list_val F (wn rfl) rfl rfl (.bool true) (ex_bin .neq _ _ _ _ rfl .i64 _ _ (F.e rfl) rfl _ (b_neq (by simp; omega))) ?_; clear F a; intro a F
  refine list_val F (wn rfl) rfl rfl (.bool true) (ex_assign _ rfl _ (F.e rfl)) ?_; clear F a; intro a F
  refine wpList_nil ?_
  replace F : Fr 41 a [(0, .string (ST.str s)), (2, .slice none 0 0), (3, .int .i64 0), (6, .bool false), (10, .bool true)] := F.keep ⟨rfl, rfl, rfl, rfl, rfl, trivial⟩
  refine then_n ?_
  refine wp_cond_true (F.e rfl) ?_
  refine wp_seq ?_
  refine wp_region_lit ?_
  refine list_val F (wn rfl) rfl rfl (.slice none 0 0) (ex_assign _ rfl _ rfl) ?_; clear F a; intro a F
  refine list_val F (wn rfl) rfl rfl (.int .i64 11) (ex_assign _ rfl _ rfl) ?_; clear F a; intro a F
  refine wpList_nil ?_
  replace F : Fr 41 a [(0, .string (ST.str s)), (2, .slice none 0 0), (3, .int .i64 11), (6, .bool false), (10, .bool true)] := F.keep ⟨rfl, rfl, rfl, rfl, rfl, trivial⟩
  refine then_n ?_
  refine wp_ret ?_
  refine in_r ?_
  refine then_r ?_
  rw [b16_odd hd hm2]
  exact ret_tmp2 F rfl rfl rfl ⟨none, 0, rfl, Ow.nil _ _ _ _, M.bel⟩
 refine wp_region_lit ?_
 refine list_val F (wn rfl) rfl rfl (.string (ST.str s)) (ex_move _ rfl _ (F.e rfl)) ?_; clear F a; intro a F
 refine list_do (wn rfl) (fun K hK => ?_)
 refine ow_call rfl rfl F 25 #[.string (ST.str s), .string (ST.str sHex)] (ex_call 25 _ _ rfl rfl g3_ent_25 _ (map2 (F.e rfl) rfl)) (Tryd.strings_Trim_set (ST.str s) (ST.str sHex) _ (by rw [ST.str_size]; omega) (by rw [ST.str_size]; decide) hex_ascii) (fun e v hR => ?_)
 obtain ⟨he, hb⟩ := hR
 rw [ST.str_data, ST.str_data] at he
 refine ⟨.string (ST.str (Lib.trimS s sHex)), he, ?_⟩; clear he F a; intro a F
 refine hK _ _ ?_
 clear hK K
 replace M := M.below hb; clear hb; try clear w
 refine list_val F (wn rfl) rfl rfl (.bool true) (ST.ex_neqs _ _ _ _ rfl (Lib.trimS s sHex) ([] : List UInt8) (F.e rfl) rfl true (by rw [decide_eq_false hd]; rfl)) ?_; clear F a; intro a F
 refine list_val F (wn rfl) rfl rfl (.bool true) (ex_assign _ rfl _ (F.e rfl)) ?_; clear F a; intro a F
 refine wpList_nil ?_
 replace F : Fr 41 a [(0, .string (ST.str s)), (2, .slice none 0 0), (3, .int .i64 0), (6, .bool true)] := F.keep ⟨rfl, rfl, rfl, rfl, trivial⟩
 refine then_n ?_
 refine wp_cond_true (F.e rfl) ?_
 refine wp_seq ?_
 refine wp_region_lit ?_
 refine list_val F (wn rfl) rfl rfl (.slice none 0 0) (ex_assign _ rfl _ rfl) ?_; clear F a; intro a F
 refine list_val F (wn rfl) rfl rfl (.int .i64 10) (ex_assign _ rfl _ rfl) ?_; clear F a; intro a F
 refine wpList_nil ?_
 replace F : Fr 41 a [(0, .string (ST.str s)), (2, .slice none 0 0), (3, .int .i64 10), (6, .bool true)] := F.keep ⟨rfl, rfl, rfl, rfl, trivial⟩
 refine then_n ?_
 refine wp_ret ?_
 refine in_r ?_
 refine then_r ?_
 rw [b16_bad hd]
 exact ret_tmp2 F rfl rfl rfl ⟨none, 0, rfl, Ow.nil _ _ _ _, M.bel⟩
theorem g3_sl_28_1 : sl? Tryd.prog 28 1 = true := by kernel_rfl
theorem g3_cv_31_5_u8 : cv? Tryd.prog 31 5 .u8 = true := by kernel_rfl
theorem g3_info_5_map_size_some_1 : (Tryd.prog.info? 5).map (·.size) = some 1 := by kernel_rfl
set_option maxHeartbeats 1000000 in
set_option maxRecDepth 100000 in
theorem lay_any (n wd : Nat) (h1 : 1 ≤ wd) (h8 : wd ≤ 8) (hn : n < 18446744073709551616) (w : World) :
    Calls Tryd.prog 10 #[.int .u64 ((n : Nat) : Int), .int .i64 ((wd : Nat) : Int)] w fun r w' => ∃ A' c', r = .returned (.tuple #[.slice A' (layR n wd).1.length c', .int .i64 (layR n wd).2]) ∧ Ow ST.kB 5 w' w.heap.size (.slice A' (layR n wd).1.length c') (layR n wd).1 ∧ Below w.heap.size w w' := by
 refine calls_start Tryd.func10 rfl rfl rfl (fun a F => ?_)
 have M : Mm w w [] := Mm.nil w
 refine wp_seq ?_
 refine wp_region_lit ?_
 refine list_val F (wn rfl) rfl rfl (.slice none 0 0) (ex_assign _ rfl _ rfl) ?_; clear F a; intro a F
 refine list_val F (wn rfl) rfl rfl (.int .i64 0) (ex_assign _ rfl _ rfl) ?_; clear F a; intro a F
 refine wpList_nil ?_
 replace F : Fr 45 a [(0, .int .u64 ((n : Nat) : Int)), (1, .int .i64 ((wd : Nat) : Int)), (4, .slice none 0 0), (5, .int .i64 0)] := F.keep ⟨rfl, rfl, rfl, rfl, trivial⟩
 refine then_n ?_
 refine wp_seq ?_
 refine wp_block ?_
 refine wp_seq ?_
 refine wp_region_lit ?_
 refine list_val F (wn rfl) rfl rfl (.int .i64 ((wd : Nat) : Int)) (ex_move _ rfl _ (F.e rfl)) ?_; clear F a; intro a F
 refine list_val F (wn rfl) rfl rfl (.bool false) (ex_bin .lss _ _ _ _ rfl .i64 _ _ (F.e rfl) rfl _ (b_lss (decide_eq_false (by omega)))) ?_; clear F a; intro a F
 refine list_val F (wn rfl) rfl rfl (.bool false) (ex_move _ rfl _ (F.e rfl)) ?_; clear F a; intro a F
 refine list_val F (F.wants 11 false rfl (by kernel_rfl) rfl true rfl) rfl rfl (.int .i64 ((wd : Nat) : Int)) (ex_move _ rfl _ (F.e rfl)) ?_; clear F a; intro a F
 refine list_val F (F.wants 11 false rfl (by kernel_rfl) rfl true rfl) rfl rfl (.bool false) (ex_bin .gtr _ _ _ _ rfl .i64 _ _ (F.e rfl) rfl _ (b_gtr (decide_eq_false (by omega)))) ?_; clear F a; intro a F
 refine list_val F (wn rfl) rfl rfl (.bool false) (ex_pick_f _ _ _ rfl (F.e rfl) _ (F.e rfl)) ?_; clear F a; intro a F
 refine list_val F (wn rfl) rfl rfl (.bool false) (ex_assign _ rfl _ (F.e rfl)) ?_; clear F a; intro a F
 refine wpList_nil ?_
 replace F : Fr 45 a [(0, .int .u64 ((n : Nat) : Int)), (1, .int .i64 ((wd : Nat) : Int)), (4, .slice none 0 0), (5, .int .i64 0), (8, .bool false)] := F.keep ⟨rfl, rfl, rfl, rfl, rfl, trivial⟩
 refine then_n ?_
 refine wp_cond_false (F.e rfl) ?_
 refine wp_seq ?_
 by_cases h8' : wd = 8
 ·
  have hR : layR n wd = (be n wd, 0) := if_neg (fun h => by omega)
  refine wp_region_lit ?_
  refine list_val F (wn rfl) rfl rfl (.int .i64 ((wd : Nat) : Int)) (ex_move _ rfl _ (F.e rfl)) ?_; clear F a; intro a F
  refine list_val F (wn rfl) rfl rfl (.bool false) (ex_bin .lss _ _ _ _ rfl .i64 _ _ (F.e rfl) rfl _ (b_lss (decide_eq_false (by omega)))) ?_; clear F a; intro a F
  refine list_val F (wn rfl) rfl rfl (.bool false) (ex_move _ rfl _ (F.e rfl)) ?_; clear F a; intro a F
  refine list_skip F (F.wants 18 false rfl (by kernel_rfl) rfl false rfl) rfl rfl ?_; clear F a; intro a F
  refine list_skip F (F.wants 18 false rfl (by kernel_rfl) rfl false rfl) rfl rfl ?_; clear F a; intro a F
  refine list_skip F (F.wants 18 false rfl (by kernel_rfl) rfl false rfl) rfl rfl ?_; clear F a; intro a F
  refine list_skip F (F.wants 18 false rfl (by kernel_rfl) rfl false rfl) rfl rfl ?_; clear F a; intro a F
  refine list_skip F (F.wants 18 false rfl (by kernel_rfl) rfl false rfl) rfl rfl ?_; clear F a; intro a F
  refine list_val F (wn rfl) rfl rfl (.bool false) (ex_pick_f _ _ _ rfl (F.e rfl) _ rfl) ?_; clear F a; intro a F
  refine list_val F (wn rfl) rfl rfl (.bool false) (ex_assign _ rfl _ (F.e rfl)) ?_; clear F a; intro a F
  refine wpList_nil ?_
  replace F : Fr 45 a [(0, .int .u64 ((n : Nat) : Int)), (1, .int .i64 ((wd : Nat) : Int)), (4, .slice none 0 0), (5, .int .i64 0), (8, .bool false), (15, .bool false)] := F.keep ⟨rfl, rfl, rfl, rfl, rfl, rfl, trivial⟩
  refine then_n ?_
  refine wp_cond_false (F.e rfl) ?_
  refine wp_skip ?_
  refine in_n ?_
  refine then_n ?_
  refine wp_seq ?_
  refine wp_region_lit ?_
  refine list_val F (wn rfl) rfl rfl (.int .i64 ((wd : Nat) : Int)) (ex_move _ rfl _ (F.e rfl)) ?_; clear F a; intro a F
  refine list_do (wn rfl) (fun K hK => ?_)
  refine ow_makeB F M rfl rfl _ _ rfl wd (F.e rfl) (F.e rfl) (by omega) ?_
  clear F M a; intro a g26 v F M hb hg
  refine hK _ _ ?_
  clear hK K
  clear hb hg; try clear w
  rw [← beTo_zero n wd] at M
  refine list_val F (wn rfl) rfl rfl (.slice (some ⟨g26, 0, none⟩) wd wd) (ex_assign _ rfl _ (F.e rfl)) ?_; clear F a; intro a F
  refine wpList_nil ?_
  replace F : Fr 45 a [(0, .int .u64 ((n : Nat) : Int)), (1, .int .i64 ((wd : Nat) : Int)), (4, .slice none 0 0), (5, .int .i64 0), (6, .slice (some ⟨g26, 0, none⟩) wd wd), (8, .bool false), (15, .bool false)] := F.keep ⟨rfl, rfl, rfl, rfl, rfl, rfl, rfl, trivial⟩
  refine then_n ?_
  refine wp_seq ?_
  refine wp_seq ?_
  refine wp_region_lit ?_
  refine list_val F (wn rfl) rfl rfl (.slice (some ⟨g26, 0, none⟩) wd wd) (ex_move _ rfl _ (F.e rfl)) ?_; clear F a; intro a F
  refine list_val F (wn rfl) rfl rfl (.int .i64 ((wd : Nat) : Int)) (ex_len _ _ rfl 1 g3_sl_28_1 _ _ _ (F.e rfl)) ?_; clear F a; intro a F
  refine list_val F (wn rfl) rfl rfl (.int .i64 0) (ex_move _ rfl _ rfl) ?_; clear F a; intro a F
  refine wpList_nil ?_
  replace F : Fr 45 a [(0, .int .u64 ((n : Nat) : Int)), (1, .int .i64 ((wd : Nat) : Int)), (4, .slice none 0 0), (5, .int .i64 0), (6, .slice (some ⟨g26, 0, none⟩) wd wd), (8, .bool false), (15, .bool false), (28, .int .i64 ((wd : Nat) : Int)), (29, .int .i64 0)] := F.keep ⟨rfl, rfl, rfl, rfl, rfl, rfl, rfl, rfl, rfl, trivial⟩
  refine then_n ?_
  refine wp_block ?_
  refine wp_loopN (fun mq ar wr => ∃ (i : Nat), Fr 45 ar [(0, .int .u64 ((n : Nat) : Int)), (1, .int .i64 ((wd : Nat) : Int)), (4, .slice none 0 0), (5, .int .i64 0), (6, .slice (some ⟨g26, 0, none⟩) wd wd), (8, .bool false), (15, .bool false), (28, .int .i64 ((wd : Nat) : Int)), (29, .int .i64 ((i : Nat) : Int))] ∧ Mm w wr [⟨g26, ((beTo n wd i).flatMap ST.bc).toArray, 5⟩] ∧ i ≤ wd ∧ mq + i = wd) wd ?_ ?_
  ·
   exact ⟨0, F.keep ⟨rfl, rfl, rfl, rfl, rfl, rfl, rfl, rfl, rfl, trivial⟩, M, (Nat.zero_le _), (by omega)⟩
  clear F M a
  rintro mq a u ⟨i, F, M, hi, hq⟩; try clear v
  by_cases hin : i < wd
  ·
   refine wp_seq ?_
   refine wp_region_lit ?_
   refine list_val F (wn rfl) rfl rfl (.bool true) (ex_bin .lss _ _ _ _ rfl .i64 _ _ (F.e rfl) (F.e rfl) _ (b_lss (decide_eq_true (by omega)))) ?_; clear F a; intro a F
   refine wpList_nil ?_
   replace F : Fr 45 a [(0, .int .u64 ((n : Nat) : Int)), (1, .int .i64 ((wd : Nat) : Int)), (4, .slice none 0 0), (5, .int .i64 0), (6, .slice (some ⟨g26, 0, none⟩) wd wd), (8, .bool false), (15, .bool false), (28, .int .i64 ((wd : Nat) : Int)), (29, .int .i64 ((i : Nat) : Int)), (30, .bool true)] := F.keep ⟨rfl, rfl, rfl, rfl, rfl, rfl, rfl, rfl, rfl, rfl, trivial⟩
   refine then_n ?_
   refine wp_seq ?_
   refine wp_cond_true (F.e rfl) ?_
   refine wp_skip ?_
   refine then_n ?_
   refine wp_seq ?_
   refine wp_block ?_
   refine wp_seq ?_
   refine wp_region_lit ?_
   refine list_val F (wn rfl) rfl rfl (.int .i64 ((i : Nat) : Int)) (ex_move _ rfl _ (F.e rfl)) ?_; clear F a; intro a F
   refine list_val F (wn rfl) rfl rfl (.int .i64 ((i : Nat) : Int)) (ex_assign _ rfl _ (F.e rfl)) ?_; clear F a; intro a F
   refine wpList_nil ?_
   replace F : Fr 45 a [(0, .int .u64 ((n : Nat) : Int)), (1, .int .i64 ((wd : Nat) : Int)), (4, .slice none 0 0), (5, .int .i64 0), (6, .slice (some ⟨g26, 0, none⟩) wd wd), (7, .int .i64 ((i : Nat) : Int)), (8, .bool false), (15, .bool false), (28, .int .i64 ((wd : Nat) : Int)), (29, .int .i64 ((i : Nat) : Int)), (30, .bool true)] := F.keep ⟨rfl, rfl, rfl, rfl, rfl, rfl, rfl, rfl, rfl, rfl, rfl, trivial⟩
   refine then_n ?_
   refine wp_region_lit ?_
   refine list_val F (wn rfl) rfl rfl (.slice (some ⟨g26, 0, none⟩) wd wd) (ex_move _ rfl _ (F.e rfl)) ?_; clear F a; intro a F
   refine list_val F (wn rfl) rfl rfl (.int .i64 ((i : Nat) : Int)) (ex_move _ rfl _ (F.e rfl)) ?_; clear F a; intro a F
   refine list_val F (wn rfl) rfl rfl (.int .u64 ((n : Nat) : Int)) (ex_move _ rfl _ (F.e rfl)) ?_; clear F a; intro a F
   refine list_val F (wn rfl) rfl rfl (.int .i64 ((wd : Nat) : Int)) (ex_move _ rfl _ (F.e rfl)) ?_; clear F a; intro a F
   refine list_val F (wn rfl) rfl rfl (.int .i64 ((wd - 1 : Nat) : Int)) (ex_bin .sub _ _ _ _ rfl .i64 _ _ (F.e rfl) rfl _ (b_sub ((w_i64 (by omega) (by omega)).trans (by omega)))) ?_; clear F a; intro a F
   refine list_val F (wn rfl) rfl rfl (.int .i64 ((i : Nat) : Int)) (ex_move _ rfl _ (F.e rfl)) ?_; clear F a; intro a F
   refine list_val F (wn rfl) rfl rfl (.int .i64 ((wd - 1 - i : Nat) : Int)) (ex_bin .sub _ _ _ _ rfl .i64 _ _ (F.e rfl) (F.e rfl) _ (b_sub ((w_i64 (by omega) (by omega)).trans (by omega)))) ?_; clear F a; intro a F
   refine list_val F (wn rfl) rfl rfl (.int .i64 ((8 * (wd - 1 - i) : Nat) : Int)) (ex_bin .mul _ _ _ _ rfl .i64 _ _ rfl (F.e rfl) _ (b_mul ((w_i64 (by omega) (by omega)).trans (by omega)))) ?_; clear F a; intro a F
   refine list_val F (wn rfl) rfl rfl (.int .u64 (((n / 2 ^ (8 * (wd - 1 - i))) : Nat) : Int)) (ST.ex_shrN _ _ _ _ rfl .u64 .i64 n (8 * (wd - 1 - i)) _ (F.e rfl) (F.e rfl) rfl (by show _ ≤ 64; omega) (n / 2 ^ (8 * (wd - 1 - i))) rfl) ?_; clear F a; intro a F
   refine list_val F (wn rfl) rfl rfl (.int .u8 (((UInt8.ofNat (n / 2 ^ (8 * (wd - 1 - i)) % 256)).toNat : Nat) : Int)) (ex_conv _ _ _ rfl _ .u8 g3_cv_31_5_u8 _ (F.e rfl) _ (u8_wrap _)) ?_; clear F a; intro a F
   refine list_val F (wn rfl) rfl rfl (.pointer (some ⟨g26, i * 1, none⟩)) (ex_ix _ _ _ rfl 1 g3_sl_28_1 ⟨g26, 0, none⟩ _ _ (F.e rfl) .i64 _ (F.e rfl) i rfl (by omega) ⟨g26, i * 1, none⟩ ((addr_add _ _ _).trans (by rw [Nat.zero_add]))) ?_; clear F a; intro a F
   refine list_do (wn rfl) (fun K hK => ?_)
   refine ow_store F M rfl 5 _ _ rfl 0 g26 (((beTo n wd i).flatMap ST.bc).toArray) _ rfl (i * 1) (F.e rfl) _ (F.e rfl) [.int .u8 (((UInt8.ofNat (n / 2 ^ (8 * (wd - 1 - i)) % 256)).toNat : Nat) : Int)] rfl g3_info_5_map_size_some_1 (by rw [List.size_toArray, flat_len, beTo_len (by omega)]; simp only [List.length_cons, List.length_nil]; omega) (by simp [Value.oneCell']) (((beTo n wd (i + 1)).flatMap ST.bc).toArray) (congrArg List.toArray (by rw [Nat.mul_one]; exact (be_set (beTo_get hin)).trans (by rw [beTo_set hin]))) ?_
   clear F a; have Mo := M; clear M; intro a v F M hgr
   refine hK _ _ ?_
   clear hK K
   clear Mo hgr; try clear u
   replace M : Mm w v [⟨g26, (((beTo n wd (i + 1)).flatMap ST.bc).toArray), 5⟩] := M
   refine wpList_nil ?_
   replace F : Fr 45 a [(0, .int .u64 ((n : Nat) : Int)), (1, .int .i64 ((wd : Nat) : Int)), (4, .slice none 0 0), (5, .int .i64 0), (6, .slice (some ⟨g26, 0, none⟩) wd wd), (7, .int .i64 ((i : Nat) : Int)), (8, .bool false), (15, .bool false), (28, .int .i64 ((wd : Nat) : Int)), (29, .int .i64 ((i : Nat) : Int)), (30, .bool true)] := F.keep ⟨rfl, rfl, rfl, rfl, rfl, rfl, rfl, rfl, rfl, rfl, rfl, trivial⟩
   refine in_n ?_
   refine then_n ?_
   refine wp_region_lit ?_
   refine list_val F (wn rfl) rfl rfl (.int .i64 ((i + 1 : Nat) : Int)) (ex_bin .add _ _ _ _ rfl .i64 _ _ (F.e rfl) rfl _ (b_add ((w_i64 (by omega) (by omega)).trans (by omega)))) ?_; clear F a; intro a F
   refine list_val F (wn rfl) rfl rfl (.int .i64 ((i + 1 : Nat) : Int)) (ex_move _ rfl _ (F.e rfl)) ?_; clear F a; intro a F
   refine wpList_nil ?_
   replace F : Fr 45 a [(0, .int .u64 ((n : Nat) : Int)), (1, .int .i64 ((wd : Nat) : Int)), (4, .slice none 0 0), (5, .int .i64 0), (6, .slice (some ⟨g26, 0, none⟩) wd wd), (7, .int .i64 ((i : Nat) : Int)), (8, .bool false), (15, .bool false), (28, .int .i64 ((wd : Nat) : Int)), (29, .int .i64 ((i + 1 : Nat) : Int)), (30, .bool true)] := F.keep ⟨rfl, rfl, rfl, rfl, rfl, rfl, rfl, rfl, rfl, rfl, rfl, trivial⟩
   refine then_n ?_
   exact ⟨wd - (i + 1), by omega, (i + 1), F.keep ⟨rfl, rfl, rfl, rfl, rfl, rfl, rfl, rfl, rfl, trivial⟩, (by refine M.pick' [0] _ ?_ (by decide); exact ⟨rfl, trivial⟩), (by omega), (by omega)⟩
  obtain rfl : wd = i := by omega
  refine wp_seq ?_
  refine wp_region_lit ?_
  refine list_val F (wn rfl) rfl rfl (.bool false) (ex_bin .lss _ _ _ _ rfl .i64 _ _ (F.e rfl) (F.e rfl) _ (b_lss (decide_eq_false (by omega)))) ?_; clear F a; intro a F
  refine wpList_nil ?_
  replace F : Fr 45 a [(0, .int .u64 ((n : Nat) : Int)), (1, .int .i64 ((wd : Nat) : Int)), (4, .slice none 0 0), (5, .int .i64 0), (6, .slice (some ⟨g26, 0, none⟩) wd wd), (8, .bool false), (15, .bool false), (28, .int .i64 ((wd : Nat) : Int)), (29, .int .i64 ((wd : Nat) : Int)), (30, .bool false)] := F.keep ⟨rfl, rfl, rfl, rfl, rfl, rfl, rfl, rfl, rfl, rfl, trivial⟩
  refine then_n ?_
  refine wp_seq ?_
  refine wp_cond_false (F.e rfl) ?_
  refine wp_exit ?_
  refine then_x ?_
  refine then_x ?_
  refine in_hit ?_
  refine then_n ?_
  refine wp_seq ?_
  refine wp_region_lit ?_
  refine list_val F (wn rfl) rfl rfl (.slice (some ⟨g26, 0, none⟩) wd wd) (ex_move _ rfl _ (F.e rfl)) ?_; clear F a; intro a F
  refine list_val F (wn rfl) rfl rfl (.slice (some ⟨g26, 0, none⟩) wd wd) (ex_assign _ rfl _ (F.e rfl)) ?_; clear F a; intro a F
  refine list_val F (wn rfl) rfl rfl (.int .i64 0) (ex_assign _ rfl _ rfl) ?_; clear F a; intro a F
  refine wpList_nil ?_
  replace F : Fr 45 a [(0, .int .u64 ((n : Nat) : Int)), (1, .int .i64 ((wd : Nat) : Int)), (4, .slice (some ⟨g26, 0, none⟩) wd wd), (5, .int .i64 0), (6, .slice (some ⟨g26, 0, none⟩) wd wd), (8, .bool false), (15, .bool false), (28, .int .i64 ((wd : Nat) : Int)), (29, .int .i64 ((wd : Nat) : Int)), (30, .bool false)] := F.keep ⟨rfl, rfl, rfl, rfl, rfl, rfl, rfl, rfl, rfl, rfl, trivial⟩
  refine then_n ?_
  refine wp_ret ?_
  rw [hR]
  rw [beTo_all] at M
  exact ret_tmp2 F rfl rfl rfl ⟨_, wd, by rw [be_len], by rw [be_len]; exact Ow.of_block (enc := ST.bc) (m := 1) (sp := []) (by rw [List.append_nil]; exact M.blk 0 _ rfl) (M.lo 0 _ rfl) (be_len _ _).symm (Nat.le_refl _) (by show _ ≤ 9223372036854775807; omega) (by rw [List.append_nil, flat_len, be_len, Nat.mul_one]), M.bel⟩
 by_cases hz : n / 2 ^ (8 * wd) = 0
 ·
  have hR : layR n wd = (be n wd, 0) := if_neg (fun h => h.2 hz)
  refine wp_region_lit ?_
  refine list_val F (wn rfl) rfl rfl (.int .i64 ((wd : Nat) : Int)) (ex_move _ rfl _ (F.e rfl)) ?_; clear F a; intro a F
  refine list_val F (wn rfl) rfl rfl (.bool true) (ex_bin .lss _ _ _ _ rfl .i64 _ _ (F.e rfl) rfl _ (b_lss (decide_eq_true (by omega)))) ?_; clear F a; intro a F
  refine list_val F (wn rfl) rfl rfl (.bool true) (ex_move _ rfl _ (F.e rfl)) ?_; clear F a; intro a F
  refine list_val F (F.wants 18 true rfl (by kernel_rfl) rfl true rfl) rfl rfl (.int .u64 ((n : Nat) : Int)) (ex_move _ rfl _ (F.e rfl)) ?_; clear F a; intro a F
  refine list_val F (F.wants 18 true rfl (by kernel_rfl) rfl true rfl) rfl rfl (.int .i64 ((wd : Nat) : Int)) (ex_move _ rfl _ (F.e rfl)) ?_; clear F a; intro a F
  refine list_val F (F.wants 18 true rfl (by kernel_rfl) rfl true rfl) rfl rfl (.int .i64 ((8 * wd : Nat) : Int)) (ex_bin .mul _ _ _ _ rfl .i64 _ _ rfl (F.e rfl) _ (b_mul ((w_i64 (by omega) (by omega)).trans (by omega)))) ?_; clear F a; intro a F
  refine list_val F (F.wants 18 true rfl (by kernel_rfl) rfl true rfl) rfl rfl (.int .u64 (((n / 2 ^ (8 * wd)) : Nat) : Int)) (ST.ex_shrN _ _ _ _ rfl .u64 .i64 n (8 * wd) _ (F.e rfl) (F.e rfl) rfl (by show _ ≤ 64; omega) (n / 2 ^ (8 * wd)) rfl) ?_; clear F a; intro a F
  refine list_val F (F.wants 18 true rfl (by kernel_rfl) rfl true rfl) rfl rfl (.bool false) (ex_bin .neq _ _ _ _ rfl .u64 _ _ (F.e rfl) rfl _ (b_neq (by rw [hz]; rfl))) ?_; clear F a; intro a F
  refine list_val F (wn rfl) rfl rfl (.bool false) (ex_pick_t _ _ _ rfl (F.e rfl) _ (F.e rfl)) ?_; clear F a; intro a F
  refine list_val F (wn rfl) rfl rfl (.bool false) (ex_assign _ rfl _ (F.e rfl)) ?_; clear F a; intro a F
  refine wpList_nil ?_
  replace F : Fr 45 a [(0, .int .u64 ((n : Nat) : Int)), (1, .int .i64 ((wd : Nat) : Int)), (4, .slice none 0 0), (5, .int .i64 0), (8, .bool false), (15, .bool false)] := F.keep ⟨rfl, rfl, rfl, rfl, rfl, rfl, trivial⟩
  refine then_n ?_
  refine wp_cond_false (F.e rfl) ?_
  refine wp_skip ?_
  refine in_n ?_
  refine then_n ?_
  refine wp_seq ?_
  refine wp_region_lit ?_
  refine list_val F (wn rfl) rfl rfl (.int .i64 ((wd : Nat) : Int)) (ex_move _ rfl _ (F.e rfl)) ?_; clear F a; intro a F
  refine list_do (wn rfl) (fun K hK => ?_)
  refine ow_makeB F M rfl rfl _ _ rfl wd (F.e rfl) (F.e rfl) (by omega) ?_
  clear F M a; intro a g26 v F M hb hg
  refine hK _ _ ?_
  clear hK K
  clear hb hg; try clear w
  rw [← beTo_zero n wd] at M
  refine list_val F (wn rfl) rfl rfl (.slice (some ⟨g26, 0, none⟩) wd wd) (ex_assign _ rfl _ (F.e rfl)) ?_; clear F a; intro a F
  refine wpList_nil ?_
  replace F : Fr 45 a [(0, .int .u64 ((n : Nat) : Int)), (1, .int .i64 ((wd : Nat) : Int)), (4, .slice none 0 0), (5, .int .i64 0), (6, .slice (some ⟨g26, 0, none⟩) wd wd), (8, .bool false), (15, .bool false)] := F.keep ⟨rfl, rfl, rfl, rfl, rfl, rfl, rfl, trivial⟩
  refine then_n ?_
  refine wp_seq ?_
  refine wp_seq ?_
  refine wp_region_lit ?_
  refine list_val F (wn rfl) rfl rfl (.slice (some ⟨g26, 0, none⟩) wd wd) (ex_move _ rfl _ (F.e rfl)) ?_; clear F a; intro a F
  refine list_val F (wn rfl) rfl rfl (.int .i64 ((wd : Nat) : Int)) (ex_len _ _ rfl 1 g3_sl_28_1 _ _ _ (F.e rfl)) ?_; clear F a; intro a F
  refine list_val F (wn rfl) rfl rfl (.int .i64 0) (ex_move _ rfl _ rfl) ?_; clear F a; intro a F
  refine wpList_nil ?_
  replace F : Fr 45 a [(0, .int .u64 ((n : Nat) : Int)), (1, .int .i64 ((wd : Nat) : Int)), (4, .slice none 0 0), (5, .int .i64 0), (6, .slice (some ⟨g26, 0, none⟩) wd wd), (8, .bool false), (15, .bool false), (28, .int .i64 ((wd : Nat) : Int)), (29, .int .i64 0)] := F.keep ⟨rfl, rfl, rfl, rfl, rfl, rfl, rfl, rfl, rfl, trivial⟩
  refine then_n ?_
  refine wp_block ?_
  refine wp_loopN (fun mq ar wr => ∃ (i : Nat), Fr 45 ar [(0, .int .u64 ((n : Nat) : Int)), (1, .int .i64 ((wd : Nat) : Int)), (4, .slice none 0 0), (5, .int .i64 0), (6, .slice (some ⟨g26, 0, none⟩) wd wd), (8, .bool false), (15, .bool false), (28, .int .i64 ((wd : Nat) : Int)), (29, .int .i64 ((i : Nat) : Int))] ∧ Mm w wr [⟨g26, ((beTo n wd i).flatMap ST.bc).toArray, 5⟩] ∧ i ≤ wd ∧ mq + i = wd) wd ?_ ?_
  ·
   exact ⟨0, F.keep ⟨rfl, rfl, rfl, rfl, rfl, rfl, rfl, rfl, rfl, trivial⟩, M, (Nat.zero_le _), (by omega)⟩
  clear F M a
  rintro mq a u ⟨i, F, M, hi, hq⟩; try clear v
  by_cases hin : i < wd
  ·
   refine wp_seq ?_
   refine wp_region_lit ?_
   refine list_val F (wn rfl) rfl rfl (.bool true) (ex_bin .lss _ _ _ _ rfl .i64 _ _ (F.e rfl) (F.e rfl) _ (b_lss (decide_eq_true (by omega)))) ?_; clear F a; intro a F
   refine wpList_nil ?_
   replace F : Fr 45 a [(0, .int .u64 ((n : Nat) : Int)), (1, .int .i64 ((wd : Nat) : Int)), (4, .slice none 0 0), (5, .int .i64 0), (6, .slice (some ⟨g26, 0, none⟩) wd wd), (8, .bool false), (15, .bool false), (28, .int .i64 ((wd : Nat) : Int)), (29, .int .i64 ((i : Nat) : Int)), (30, .bool true)] := F.keep ⟨rfl, rfl, rfl, rfl, rfl, rfl, rfl, rfl, rfl, rfl, trivial⟩
   refine then_n ?_
   refine wp_seq ?_
   refine wp_cond_true (F.e rfl) ?_
   refine wp_skip ?_
   refine then_n ?_
   refine wp_seq ?_
   refine wp_block ?_
   refine wp_seq ?_
   refine wp_region_lit ?_
   refine list_val F (wn rfl) rfl rfl (.int .i64 ((i : Nat) : Int)) (ex_move _ rfl _ (F.e rfl)) ?_; clear F a; intro a F
   refine list_val F (wn rfl) rfl rfl (.int .i64 ((i : Nat) : Int)) (ex_assign _ rfl _ (F.e rfl)) ?_; clear F a; intro a F
   refine wpList_nil ?_
   replace F : Fr 45 a [(0, .int .u64 ((n : Nat) : Int)), (1, .int .i64 ((wd : Nat) : Int)), (4, .slice none 0 0), (5, .int .i64 0), (6, .slice (some ⟨g26, 0, none⟩) wd wd), (7, .int .i64 ((i : Nat) : Int)), (8, .bool false), (15, .bool false), (28, .int .i64 ((wd : Nat) : Int)), (29, .int .i64 ((i : Nat) : Int)), (30, .bool true)] := F.keep ⟨rfl, rfl, rfl, rfl, rfl, rfl, rfl, rfl, rfl, rfl, rfl, trivial⟩
   refine then_n ?_
   refine wp_region_lit ?_
   refine list_val F (wn rfl) rfl rfl (.slice (some ⟨g26, 0, none⟩) wd wd) (ex_move _ rfl _ (F.e rfl)) ?_; clear F a; intro a F
   refine list_val F (wn rfl) rfl rfl (.int .i64 ((i : Nat) : Int)) (ex_move _ rfl _ (F.e rfl)) ?_; clear F a; intro a F
   refine list_val F (wn rfl) rfl rfl (.int .u64 ((n : Nat) : Int)) (ex_move _ rfl _ (F.e rfl)) ?_; clear F a; intro a F
   refine list_val F (wn rfl) rfl rfl (.int .i64 ((wd : Nat) : Int)) (ex_move _ rfl _ (F.e rfl)) ?_; clear F a; intro a F
   refine list_val F (wn rfl) rfl rfl (.int .i64 ((wd - 1 : Nat) : Int)) (ex_bin .sub _ _ _ _ rfl .i64 _ _ (F.e rfl) rfl _ (b_sub ((w_i64 (by omega) (by omega)).trans (by omega)))) ?_; clear F a; intro a F
   refine list_val F (wn rfl) rfl rfl (.int .i64 ((i : Nat) : Int)) (ex_move _ rfl _ (F.e rfl)) ?_; clear F a; intro a F
   refine list_val F (wn rfl) rfl rfl (.int .i64 ((wd - 1 - i : Nat) : Int)) (ex_bin .sub _ _ _ _ rfl .i64 _ _ (F.e rfl) (F.e rfl) _ (b_sub ((w_i64 (by omega) (by omega)).trans (by omega)))) ?_; clear F a; intro a F
   refine list_val F (wn rfl) rfl rfl (.int .i64 ((8 * (wd - 1 - i) : Nat) : Int)) (ex_bin .mul _ _ _ _ rfl .i64 _ _ rfl (F.e rfl) _ (b_mul ((w_i64 (by omega) (by omega)).trans (by omega)))) ?_; clear F a; intro a F
   refine list_val F (wn rfl) rfl rfl (.int .u64 (((n / 2 ^ (8 * (wd - 1 - i))) : Nat) : Int)) (ST.ex_shrN _ _ _ _ rfl .u64 .i64 n (8 * (wd - 1 - i)) _ (F.e rfl) (F.e rfl) rfl (by show _ ≤ 64; omega) (n / 2 ^ (8 * (wd - 1 - i))) rfl) ?_; clear F a; intro a F
   refine list_val F (wn rfl) rfl rfl (.int .u8 (((UInt8.ofNat (n / 2 ^ (8 * (wd - 1 - i)) % 256)).toNat : Nat) : Int)) (ex_conv _ _ _ rfl _ .u8 g3_cv_31_5_u8 _ (F.e rfl) _ (u8_wrap _)) ?_; clear F a; intro a F
   refine list_val F (wn rfl) rfl rfl (.pointer (some ⟨g26, i * 1, none⟩)) (ex_ix _ _ _ rfl 1 g3_sl_28_1 ⟨g26, 0, none⟩ _ _ (F.e rfl) .i64 _ (F.e rfl) i rfl (by omega) ⟨g26, i * 1, none⟩ ((addr_add _ _ _).trans (by rw [Nat.zero_add]))) ?_; clear F a; intro a F
   refine list_do (wn rfl) (fun K hK => ?_)
   refine ow_store F M rfl 5 _ _ rfl 0 g26 (((beTo n wd i).flatMap ST.bc).toArray) _ rfl (i * 1) (F.e rfl) _ (F.e rfl) [.int .u8 (((UInt8.ofNat (n / 2 ^ (8 * (wd - 1 - i)) % 256)).toNat : Nat) : Int)] rfl g3_info_5_map_size_some_1 (by rw [List.size_toArray, flat_len, beTo_len (by omega)]; simp only [List.length_cons, List.length_nil]; omega) (by simp [Value.oneCell']) (((beTo n wd (i + 1)).flatMap ST.bc).toArray) (congrArg List.toArray (by rw [Nat.mul_one]; exact (be_set (beTo_get hin)).trans (by rw [beTo_set hin]))) ?_
   clear F a; have Mo := M; clear M; intro a v F M hgr
   refine hK _ _ ?_
   clear hK K
   clear Mo hgr; try clear u
   replace M : Mm w v [⟨g26, (((beTo n wd (i + 1)).flatMap ST.bc).toArray), 5⟩] := M
   refine wpList_nil ?_
   replace F : Fr 45 a [(0, .int .u64 ((n : Nat) : Int)), (1, .int .i64 ((wd : Nat) : Int)), (4, .slice none 0 0), (5, .int .i64 0), (6, .slice (some ⟨g26, 0, none⟩) wd wd), (7, .int .i64 ((i : Nat) : Int)), (8, .bool false), (15, .bool false), (28, .int .i64 ((wd : Nat) : Int)), (29, .int .i64 ((i : Nat) : Int)), (30, .bool true)] := F.keep ⟨rfl, rfl, rfl, rfl, rfl, rfl, rfl, rfl, rfl, rfl, rfl, trivial⟩
   refine in_n ?_
   refine then_n ?_
   refine wp_region_lit ?_
   refine list_val F (wn rfl) rfl rfl (.int .i64 ((i + 1 : Nat) : Int)) (ex_bin .add _ _ _ _ rfl .i64 _ _ (F.e rfl) rfl _ (b_add ((w_i64 (by omega) (by omega)).trans (by omega)))) ?_; clear F a; intro a F
   refine list_val F (wn rfl) rfl rfl (.int .i64 ((i + 1 : Nat) : Int)) (ex_move _ rfl _ (F.e rfl)) ?_; clear F a; intro a F
   refine wpList_nil ?_
   replace F : Fr 45 a [(0, .int .u64 ((n : Nat) : Int)), (1, .int .i64 ((wd : Nat) : Int)), (4, .slice none 0 0), (5, .int .i64 0), (6, .slice (some ⟨g26, 0, none⟩) wd wd), (7, .int .i64 ((i : Nat) : Int)), (8, .bool false), (15, .bool false), (28, .int .i64 ((wd : Nat) : Int)), (29, .int .i64 ((i + 1 : Nat) : Int)), (30, .bool true)] := F.keep ⟨rfl, rfl, rfl, rfl, rfl, rfl, rfl, rfl, rfl, rfl, rfl, trivial⟩
   refine then_n ?_
   exact ⟨wd - (i + 1), by omega, (i + 1), F.keep ⟨rfl, rfl, rfl, rfl, rfl, rfl, rfl, rfl, rfl, trivial⟩, (by refine M.pick' [0] _ ?_ (by decide); exact ⟨rfl, trivial⟩), (by omega), (by omega)⟩
  obtain rfl : wd = i := by omega
  refine wp_seq ?_
  refine wp_region_lit ?_
  refine list_val F (wn rfl) rfl rfl (.bool false) (ex_bin .lss _ _ _ _ rfl .i64 _ _ (F.e rfl) (F.e rfl) _ (b_lss (decide_eq_false (by omega)))) ?_; clear F a; intro a F
  refine wpList_nil ?_
  replace F : Fr 45 a [(0, .int .u64 ((n : Nat) : Int)), (1, .int .i64 ((wd : Nat) : Int)), (4, .slice none 0 0), (5, .int .i64 0), (6, .slice (some ⟨g26, 0, none⟩) wd wd), (8, .bool false), (15, .bool false), (28, .int .i64 ((wd : Nat) : Int)), (29, .int .i64 ((wd : Nat) : Int)), (30, .bool false)] := F.keep ⟨rfl, rfl, rfl, rfl, rfl, rfl, rfl, rfl, rfl, rfl, trivial⟩
  refine then_n ?_
  refine wp_seq ?_
  refine wp_cond_false (F.e rfl) ?_
  refine wp_exit ?_
  refine then_x ?_
  refine then_x ?_
  refine in_hit ?_
  refine then_n ?_
  refine wp_seq ?_
  refine wp_region_lit ?_
  refine list_val F (wn rfl) rfl rfl (.slice (some ⟨g26, 0, none⟩) wd wd) (ex_move _ rfl _ (F.e rfl)) ?_; clear F a; intro a F
  refine list_val F (wn rfl) rfl rfl (.slice (some ⟨g26, 0, none⟩) wd wd) (ex_assign _ rfl _ (F.e rfl)) ?_; clear F a; intro a F
  refine list_val F (wn rfl) rfl rfl (.int .i64 0) (ex_assign _ rfl _ rfl) ?_; clear F a; intro a F
  refine wpList_nil ?_
  replace F : Fr 45 a [(0, .int .u64 ((n : Nat) : Int)), (1, .int .i64 ((wd : Nat) : Int)), (4, .slice (some ⟨g26, 0, none⟩) wd wd), (5, .int .i64 0), (6, .slice (some ⟨g26, 0, none⟩) wd wd), (8, .bool false), (15, .bool false), (28, .int .i64 ((wd : Nat) : Int)), (29, .int .i64 ((wd : Nat) : Int)), (30, .bool false)] := F.keep ⟨rfl, rfl, rfl, rfl, rfl, rfl, rfl, rfl, rfl, rfl, trivial⟩
  refine then_n ?_
  refine wp_ret ?_
  rw [hR]
  rw [beTo_all] at M
  exact ret_tmp2 F rfl rfl rfl ⟨_, wd, by rw [be_len], by rw [be_len]; exact Ow.of_block (enc := ST.bc) (m := 1) (sp := []) (by rw [List.append_nil]; exact M.blk 0 _ rfl) (M.lo 0 _ rfl) (be_len _ _).symm (Nat.le_refl _) (by show _ ≤ 9223372036854775807; omega) (by rw [List.append_nil, flat_len, be_len, Nat.mul_one]), M.bel⟩
 have hR : layR n wd = ([], 14) := if_pos ⟨by omega, hz⟩
 refine wp_region_lit ?_
 refine list_val F (wn rfl) rfl rfl (.int .i64 ((wd : Nat) : Int)) (ex_move _ rfl _ (F.e rfl)) ?_; clear F a; intro a F
 refine list_val F (wn rfl) rfl rfl (.bool true) (ex_bin .lss _ _ _ _ rfl .i64 _ _ (F.e rfl) rfl _ (b_lss (decide_eq_true (by omega)))) ?_; clear F a; intro a F
 refine list_val F (wn rfl) rfl rfl (.bool true) (ex_move _ rfl _ (F.e rfl)) ?_; clear F a; intro a F
 refine list_val F (F.wants 18 true rfl (by kernel_rfl) rfl true rfl) rfl rfl (.int .u64 ((n : Nat) : Int)) (ex_move _ rfl _ (F.e rfl)) ?_; clear F a; intro a F
 refine list_val F (F.wants 18 true rfl (by kernel_rfl) rfl true rfl) rfl rfl (.int .i64 ((wd : Nat) : Int)) (ex_move _ rfl _ (F.e rfl)) ?_; clear F a; intro a F
 refine list_val F (F.wants 18 true rfl (by kernel_rfl) rfl true rfl) rfl rfl (.int .i64 ((8 * wd : Nat) : Int)) (ex_bin .mul _ _ _ _ rfl .i64 _ _ rfl (F.e rfl) _ (b_mul ((w_i64 (by omega) (by omega)).trans (by omega)))) ?_; clear F a; intro a F
 refine list_val F (F.wants 18 true rfl (by kernel_rfl) rfl true rfl) rfl rfl (.int .u64 (((n / 2 ^ (8 * wd)) : Nat) : Int)) (ST.ex_shrN _ _ _ _ rfl .u64 .i64 n (8 * wd) _ (F.e rfl) (F.e rfl) rfl (by show _ ≤ 64; omega) (n / 2 ^ (8 * wd)) rfl) ?_; clear F a; intro a F
 refine list_val F (F.wants 18 true rfl (by kernel_rfl) rfl true rfl) rfl rfl (.bool true) (ex_bin .neq _ _ _ _ rfl .u64 _ _ (F.e rfl) rfl _ (b_neq (bne_iff_ne.2 (fun e => hz (Int.natCast_eq_zero.1 e))))) ?_; clear F a; intro a F
 refine list_val F (wn rfl) rfl rfl (.bool true) (ex_pick_t _ _ _ rfl (F.e rfl) _ (F.e rfl)) ?_; clear F a; intro a F
 refine list_val F (wn rfl) rfl rfl (.bool true) (ex_assign _ rfl _ (F.e rfl)) ?_; clear F a; intro a F
 refine wpList_nil ?_
 replace F : Fr 45 a [(0, .int .u64 ((n : Nat) : Int)), (1, .int .i64 ((wd : Nat) : Int)), (4, .slice none 0 0), (5, .int .i64 0), (8, .bool false), (15, .bool true)] := F.keep ⟨rfl, rfl, rfl, rfl, rfl, rfl, trivial⟩
 refine then_n ?_
 refine wp_cond_true (F.e rfl) ?_
 refine wp_seq ?_
 refine wp_region_lit ?_
 refine list_val F (wn rfl) rfl rfl (.slice none 0 0) (ex_assign _ rfl _ rfl) ?_; clear F a; intro a F
 refine list_val F (wn rfl) rfl rfl (.int .i64 14) (ex_assign _ rfl _ rfl) ?_; clear F a; intro a F
 refine wpList_nil ?_
 replace F : Fr 45 a [(0, .int .u64 ((n : Nat) : Int)), (1, .int .i64 ((wd : Nat) : Int)), (4, .slice none 0 0), (5, .int .i64 14), (8, .bool false), (15, .bool true)] := F.keep ⟨rfl, rfl, rfl, rfl, rfl, rfl, trivial⟩
 refine then_n ?_
 refine wp_ret ?_
 refine in_r ?_
 refine then_r ?_
 rw [hR]
 exact ret_tmp2 F rfl rfl rfl ⟨none, 0, rfl, Ow.nil _ _ _ _, M.bel⟩
theorem g3_one_5 : one? Tryd.prog 5 = true := by kernel_rfl
theorem g3_cv_5_31_u64 : cv? Tryd.prog 5 31 .u64 = true := by kernel_rfl
set_option maxHeartbeats 1000000 in
set_option maxRecDepth 100000 in
theorem readN_any (xs : List UInt8) (A : Option Addr) (c : Nat) (w : World) (hr : ST.kB.C w A xs.length xs) (hc : xs.length ≤ c) (hmx : xs.length ≤ 1000000) :
    Calls Tryd.prog 20 #[.slice A xs.length c] w fun e w' => e = .returned (.tuple #[.int .u64 (readR xs).1, .int .i64 (readR xs).2]) ∧ Below w.heap.size w w' := by
 refine calls_start Tryd.func20 rfl rfl rfl (fun a F => ?_)
 have M : Mm w w [] := Mm.nil w
 refine wp_seq ?_
 refine wp_region_lit ?_
 refine list_val F (wn rfl) rfl rfl (.int .u64 0) (ex_assign _ rfl _ rfl) ?_; clear F a; intro a F
 refine list_val F (wn rfl) rfl rfl (.int .i64 0) (ex_assign _ rfl _ rfl) ?_; clear F a; intro a F
 refine wpList_nil ?_
 replace F : Fr 28 a [(0, .slice A xs.length c), (2, .int .u64 0), (3, .int .i64 0)] := F.keep ⟨rfl, rfl, rfl, trivial⟩
 refine then_n ?_
 refine wp_seq ?_
 refine wp_seq ?_
 by_cases hl1 : xs.length < 1
 ·
  have hR : readR xs = (0, 11) := if_pos (.inl hl1)
  refine wp_region_lit ?_
  refine list_val F (wn rfl) rfl rfl (.slice A xs.length c) (ex_move _ rfl _ (F.e rfl)) ?_; clear F a; intro a F
  refine list_val F (wn rfl) rfl rfl (.int .i64 ((xs.length : Nat) : Int)) (ex_len _ _ rfl 1 g3_sl_28_1 _ _ _ (F.e rfl)) ?_; clear F a; intro a F
  refine list_val F (wn rfl) rfl rfl (.bool true) (ex_bin .lss _ _ _ _ rfl .i64 _ _ (F.e rfl) rfl _ (b_lss (decide_eq_true (by omega)))) ?_; clear F a; intro a F
  refine list_val F (wn rfl) rfl rfl (.bool true) (ex_move _ rfl _ (F.e rfl)) ?_; clear F a; intro a F
  refine list_skip F (F.wants 10 true rfl (by kernel_rfl) rfl false rfl) rfl rfl ?_; clear F a; intro a F
  refine list_skip F (F.wants 10 true rfl (by kernel_rfl) rfl false rfl) rfl rfl ?_; clear F a; intro a F
  refine list_skip F (F.wants 10 true rfl (by kernel_rfl) rfl false rfl) rfl rfl ?_; clear F a; intro a F
  refine list_val F (wn rfl) rfl rfl (.bool true) (ex_pick_t _ _ _ rfl (F.e rfl) _ rfl) ?_; clear F a; intro a F
  refine wpList_nil ?_
  replace F : Fr 28 a [(0, .slice A xs.length c), (2, .int .u64 0), (3, .int .i64 0), (14, .bool true)] := F.keep ⟨rfl, rfl, rfl, rfl, trivial⟩
  refine then_n ?_
  refine wp_cond_true (F.e rfl) ?_
  refine wp_seq ?_
  refine wp_region_lit ?_
  refine list_val F (wn rfl) rfl rfl (.int .u64 0) (ex_assign _ rfl _ rfl) ?_; clear F a; intro a F
  refine list_val F (wn rfl) rfl rfl (.int .i64 11) (ex_assign _ rfl _ rfl) ?_; clear F a; intro a F
  refine wpList_nil ?_
  replace F : Fr 28 a [(0, .slice A xs.length c), (2, .int .u64 0), (3, .int .i64 11), (14, .bool true)] := F.keep ⟨rfl, rfl, rfl, rfl, trivial⟩
  refine then_n ?_
  refine wp_ret ?_
  refine then_r ?_
  rw [hR]
  exact ret_tmp2 F rfl rfl rfl ⟨rfl, M.bel⟩
 by_cases hl8 : 8 < xs.length
 ·
  have hR : readR xs = (0, 11) := if_pos (.inr hl8)
  refine wp_region_lit ?_
  refine list_val F (wn rfl) rfl rfl (.slice A xs.length c) (ex_move _ rfl _ (F.e rfl)) ?_; clear F a; intro a F
  refine list_val F (wn rfl) rfl rfl (.int .i64 ((xs.length : Nat) : Int)) (ex_len _ _ rfl 1 g3_sl_28_1 _ _ _ (F.e rfl)) ?_; clear F a; intro a F
  refine list_val F (wn rfl) rfl rfl (.bool false) (ex_bin .lss _ _ _ _ rfl .i64 _ _ (F.e rfl) rfl _ (b_lss (decide_eq_false (by omega)))) ?_; clear F a; intro a F
  refine list_val F (wn rfl) rfl rfl (.bool false) (ex_move _ rfl _ (F.e rfl)) ?_; clear F a; intro a F
  refine list_val F (F.wants 10 false rfl (by kernel_rfl) rfl true rfl) rfl rfl (.slice A xs.length c) (ex_move _ rfl _ (F.e rfl)) ?_; clear F a; intro a F
  refine list_val F (F.wants 10 false rfl (by kernel_rfl) rfl true rfl) rfl rfl (.int .i64 ((xs.length : Nat) : Int)) (ex_len _ _ rfl 1 g3_sl_28_1 _ _ _ (F.e rfl)) ?_; clear F a; intro a F
  refine list_val F (F.wants 10 false rfl (by kernel_rfl) rfl true rfl) rfl rfl (.bool true) (ex_bin .gtr _ _ _ _ rfl .i64 _ _ (F.e rfl) rfl _ (b_gtr (decide_eq_true (by omega)))) ?_; clear F a; intro a F
  refine list_val F (wn rfl) rfl rfl (.bool true) (ex_pick_f _ _ _ rfl (F.e rfl) _ (F.e rfl)) ?_; clear F a; intro a F
  refine wpList_nil ?_
  replace F : Fr 28 a [(0, .slice A xs.length c), (2, .int .u64 0), (3, .int .i64 0), (14, .bool true)] := F.keep ⟨rfl, rfl, rfl, rfl, trivial⟩
  refine then_n ?_
  refine wp_cond_true (F.e rfl) ?_
  refine wp_seq ?_
  refine wp_region_lit ?_
  refine list_val F (wn rfl) rfl rfl (.int .u64 0) (ex_assign _ rfl _ rfl) ?_; clear F a; intro a F
  refine list_val F (wn rfl) rfl rfl (.int .i64 11) (ex_assign _ rfl _ rfl) ?_; clear F a; intro a F
  refine wpList_nil ?_
  replace F : Fr 28 a [(0, .slice A xs.length c), (2, .int .u64 0), (3, .int .i64 11), (14, .bool true)] := F.keep ⟨rfl, rfl, rfl, rfl, trivial⟩
  refine then_n ?_
  refine wp_ret ?_
  refine then_r ?_
  rw [hR]
  exact ret_tmp2 F rfl rfl rfl ⟨rfl, M.bel⟩
 have hR : readR xs = (((rdN xs : Nat) : Int), (0 : Int)) := if_neg (fun h => h.elim hl1 hl8)
 refine wp_region_lit ?_
 refine list_val F (wn rfl) rfl rfl (.slice A xs.length c) (ex_move _ rfl _ (F.e rfl)) ?_; clear F a; intro a F
 refine list_val F (wn rfl) rfl rfl (.int .i64 ((xs.length : Nat) : Int)) (ex_len _ _ rfl 1 g3_sl_28_1 _ _ _ (F.e rfl)) ?_; clear F a; intro a F
 refine list_val F (wn rfl) rfl rfl (.bool false) (ex_bin .lss _ _ _ _ rfl .i64 _ _ (F.e rfl) rfl _ (b_lss (decide_eq_false (by omega)))) ?_; clear F a; intro a F
 refine list_val F (wn rfl) rfl rfl (.bool false) (ex_move _ rfl _ (F.e rfl)) ?_; clear F a; intro a F
 refine list_val F (F.wants 10 false rfl (by kernel_rfl) rfl true rfl) rfl rfl (.slice A xs.length c) (ex_move _ rfl _ (F.e rfl)) ?_; clear F a; intro a F
 refine list_val F (F.wants 10 false rfl (by kernel_rfl) rfl true rfl) rfl rfl (.int .i64 ((xs.length : Nat) : Int)) (ex_len _ _ rfl 1 g3_sl_28_1 _ _ _ (F.e rfl)) ?_; clear F a; intro a F
 refine list_val F (F.wants 10 false rfl (by kernel_rfl) rfl true rfl) rfl rfl (.bool false) (ex_bin .gtr _ _ _ _ rfl .i64 _ _ (F.e rfl) rfl _ (b_gtr (decide_eq_false (by omega)))) ?_; clear F a; intro a F
 refine list_val F (wn rfl) rfl rfl (.bool false) (ex_pick_f _ _ _ rfl (F.e rfl) _ (F.e rfl)) ?_; clear F a; intro a F
 refine wpList_nil ?_
 replace F : Fr 28 a [(0, .slice A xs.length c), (2, .int .u64 0), (3, .int .i64 0), (14, .bool false)] := F.keep ⟨rfl, rfl, rfl, rfl, trivial⟩
 refine then_n ?_
 refine wp_cond_false (F.e rfl) ?_
 refine wp_skip ?_
 refine then_n ?_
 refine wp_seq ?_
 refine wp_region_lit ?_
 refine list_val F (wn rfl) rfl rfl (.int .u64 0) (ex_assign _ rfl _ rfl) ?_; clear F a; intro a F
 refine wpList_nil ?_
 replace F : Fr 28 a [(0, .slice A xs.length c), (2, .int .u64 0), (3, .int .i64 0), (4, .int .u64 0), (14, .bool false)] := F.keep ⟨rfl, rfl, rfl, rfl, rfl, trivial⟩
 refine then_n ?_
 refine wp_seq ?_
 refine wp_seq ?_
 refine wp_region_lit ?_
 refine list_val F (wn rfl) rfl rfl (.slice A xs.length c) (ex_move _ rfl _ (F.e rfl)) ?_; clear F a; intro a F
 refine list_val F (wn rfl) rfl rfl (.int .i64 ((xs.length : Nat) : Int)) (ex_len _ _ rfl 1 g3_sl_28_1 _ _ _ (F.e rfl)) ?_; clear F a; intro a F
 refine list_val F (wn rfl) rfl rfl (.int .i64 0) (ex_move _ rfl _ rfl) ?_; clear F a; intro a F
 refine wpList_nil ?_
 replace F : Fr 28 a [(0, .slice A xs.length c), (2, .int .u64 0), (3, .int .i64 0), (4, .int .u64 0), (14, .bool false), (15, .slice A xs.length c), (16, .int .i64 ((xs.length : Nat) : Int)), (17, .int .i64 0)] := F.keep ⟨rfl, rfl, rfl, rfl, rfl, rfl, rfl, rfl, trivial⟩
 refine then_n ?_
 refine wp_block ?_
 refine wp_loopN (fun mq ar wr => ∃ (i : Nat), Fr 28 ar [(0, .slice A xs.length c), (2, .int .u64 0), (3, .int .i64 0), (4, .int .u64 ((rdN (xs.take i) : Nat) : Int)), (14, .bool false), (15, .slice A xs.length c), (16, .int .i64 ((xs.length : Nat) : Int)), (17, .int .i64 ((i : Nat) : Int))] ∧ Mm w wr [] ∧ i ≤ xs.length ∧ mq + i = xs.length) xs.length ?_ ?_
 ·
  exact ⟨0, F.keep ⟨rfl, rfl, rfl, rfl, rfl, rfl, rfl, rfl, trivial⟩, M, (Nat.zero_le _), (by omega)⟩
 clear F M a
 rintro mq a v ⟨i, F, M, hi, hq⟩; try clear w
 by_cases hin : i < xs.length
 ·
  obtain ⟨x, hx⟩ : ∃ x, xs[i]? = some x := ⟨_, List.getElem?_eq_getElem (by omega)⟩
  obtain ⟨ad, hA, z⟩ := C_ix (enc := ST.bc) (m := 1) (hl := ST.bc_len) (h1 := ST.bc_one) hr hx
  subst hA
  have hxb := UInt8.toNat_lt x
  have hpw := rdN_pow hin (by omega)
  refine wp_seq ?_
  refine wp_region_lit ?_
  refine list_val F (wn rfl) rfl rfl (.bool true) (ex_bin .lss _ _ _ _ rfl .i64 _ _ (F.e rfl) (F.e rfl) _ (b_lss (decide_eq_true (by omega)))) ?_; clear F a; intro a F
  refine wpList_nil ?_
  replace F : Fr 28 a [(0, .slice (some ad) xs.length c), (2, .int .u64 0), (3, .int .i64 0), (4, .int .u64 ((rdN (xs.take i) : Nat) : Int)), (14, .bool false), (15, .slice (some ad) xs.length c), (16, .int .i64 ((xs.length : Nat) : Int)), (17, .int .i64 ((i : Nat) : Int)), (18, .bool true)] := F.keep ⟨rfl, rfl, rfl, rfl, rfl, rfl, rfl, rfl, rfl, trivial⟩
  refine then_n ?_
  refine wp_seq ?_
  refine wp_cond_true (F.e rfl) ?_
  refine wp_skip ?_
  refine then_n ?_
  refine wp_seq ?_
  refine wp_block ?_
  refine wp_seq ?_
  refine wp_region_lit ?_
  refine list_val F (wn rfl) rfl rfl (.pointer (some (ad.add (i * 1)))) (ex_ix _ _ _ rfl 1 g3_sl_28_1 ad _ _ (F.e rfl) .i64 _ (F.e rfl) i rfl (by omega) (ad.add (i * 1)) rfl) ?_; clear F a; intro a F
  refine list_val F (wn rfl) rfl rfl (.int .u8 ((x.toNat : Nat) : Int)) (ex_load _ _ rfl _ (F.e rfl) _ (lv1 g3_one_5 ((z.below M.bel).cell 0 _ rfl))) ?_; clear F a; intro a F
  refine list_val F (wn rfl) rfl rfl (.int .u8 ((x.toNat : Nat) : Int)) (ex_assign _ rfl _ (F.e rfl)) ?_; clear F a; intro a F
  refine wpList_nil ?_
  replace F : Fr 28 a [(0, .slice (some ad) xs.length c), (2, .int .u64 0), (3, .int .i64 0), (4, .int .u64 ((rdN (xs.take i) : Nat) : Int)), (6, .int .u8 ((x.toNat : Nat) : Int)), (14, .bool false), (15, .slice (some ad) xs.length c), (16, .int .i64 ((xs.length : Nat) : Int)), (17, .int .i64 ((i : Nat) : Int)), (18, .bool true)] := F.keep ⟨rfl, rfl, rfl, rfl, rfl, rfl, rfl, rfl, rfl, rfl, trivial⟩
  refine then_n ?_
  refine wp_region_lit ?_
  refine list_val F (wn rfl) rfl rfl (.int .u64 ((rdN (xs.take i) : Nat) : Int)) (ex_move _ rfl _ (F.e rfl)) ?_; clear F a; intro a F
  refine list_val F (wn rfl) rfl rfl (.int .u64 (((rdN (xs.take i) * 256) : Nat) : Int)) (ST.ex_shlN _ _ _ _ rfl .u64 .u64 (rdN (xs.take i)) 8 _ (F.e rfl) rfl rfl (by show _ ≤ 64; omega) (rdN (xs.take i) * 256) rfl (w_u64 (by omega) (by omega))) ?_; clear F a; intro a F
  refine list_val F (wn rfl) rfl rfl (.int .u8 ((x.toNat : Nat) : Int)) (ex_move _ rfl _ (F.e rfl)) ?_; clear F a; intro a F
  refine list_val F (wn rfl) rfl rfl (.int .u64 ((x.toNat : Nat) : Int)) (ex_conv _ _ _ rfl _ .u64 g3_cv_5_31_u64 _ (F.e rfl) _ (w_u64 (by omega) (by omega))) ?_; clear F a; intro a F
  refine list_val F (wn rfl) rfl rfl (.int .u64 (((rdN (xs.take (i + 1))) : Nat) : Int)) (ST.ex_orN _ _ _ _ rfl .u64 (rdN (xs.take i) * 256) x.toNat (F.e rfl) (F.e rfl) (by show _ < 18446744073709551616; omega) (by show _ < 18446744073709551616; omega) (rdN (xs.take (i + 1))) ((or256 _ _ hxb).trans (rdN_snoc hx).symm) (w_u64 (Int.natCast_nonneg _) (by rw [rdN_snoc hx]; omega))) ?_; clear F a; intro a F
  refine list_val F (wn rfl) rfl rfl (.int .u64 (((rdN (xs.take (i + 1))) : Nat) : Int)) (ex_assign _ rfl _ (F.e rfl)) ?_; clear F a; intro a F
  refine wpList_nil ?_
  replace F : Fr 28 a [(0, .slice (some ad) xs.length c), (2, .int .u64 0), (3, .int .i64 0), (4, .int .u64 (((rdN (xs.take (i + 1))) : Nat) : Int)), (6, .int .u8 ((x.toNat : Nat) : Int)), (14, .bool false), (15, .slice (some ad) xs.length c), (16, .int .i64 ((xs.length : Nat) : Int)), (17, .int .i64 ((i : Nat) : Int)), (18, .bool true)] := F.keep ⟨rfl, rfl, rfl, rfl, rfl, rfl, rfl, rfl, rfl, rfl, trivial⟩
  refine in_n ?_
  refine then_n ?_
  refine wp_region_lit ?_
  refine list_val F (wn rfl) rfl rfl (.int .i64 ((i + 1 : Nat) : Int)) (ex_bin .add _ _ _ _ rfl .i64 _ _ (F.e rfl) rfl _ (b_add ((w_i64 (by omega) (by omega)).trans (by omega)))) ?_; clear F a; intro a F
  refine list_val F (wn rfl) rfl rfl (.int .i64 ((i + 1 : Nat) : Int)) (ex_move _ rfl _ (F.e rfl)) ?_; clear F a; intro a F
  refine wpList_nil ?_
  replace F : Fr 28 a [(0, .slice (some ad) xs.length c), (2, .int .u64 0), (3, .int .i64 0), (4, .int .u64 (((rdN (xs.take (i + 1))) : Nat) : Int)), (6, .int .u8 ((x.toNat : Nat) : Int)), (14, .bool false), (15, .slice (some ad) xs.length c), (16, .int .i64 ((xs.length : Nat) : Int)), (17, .int .i64 ((i + 1 : Nat) : Int)), (18, .bool true)] := F.keep ⟨rfl, rfl, rfl, rfl, rfl, rfl, rfl, rfl, rfl, rfl, trivial⟩
  refine then_n ?_
  exact ⟨xs.length - (i + 1), by omega, (i + 1), F.keep ⟨rfl, rfl, rfl, rfl, rfl, rfl, rfl, rfl, trivial⟩, (by refine M.pick' [] _ ?_ (by decide); exact trivial), (by omega), (by omega)⟩
 obtain rfl : i = xs.length := by omega
 rw [List.take_length] at F
 refine wp_seq ?_
 refine wp_region_lit ?_
 refine list_val F (wn rfl) rfl rfl (.bool false) (ex_bin .lss _ _ _ _ rfl .i64 _ _ (F.e rfl) (F.e rfl) _ (b_lss (decide_eq_false (by omega)))) ?_; clear F a; intro a F
 refine wpList_nil ?_
 replace F : Fr 28 a [(0, .slice A xs.length c), (2, .int .u64 0), (3, .int .i64 0), (4, .int .u64 ((rdN xs : Nat) : Int)), (14, .bool false), (15, .slice A xs.length c), (16, .int .i64 ((xs.length : Nat) : Int)), (17, .int .i64 ((xs.length : Nat) : Int)), (18, .bool false)] := F.keep ⟨rfl, rfl, rfl, rfl, rfl, rfl, rfl, rfl, rfl, trivial⟩
 refine then_n ?_
 refine wp_seq ?_
 refine wp_cond_false (F.e rfl) ?_
 refine wp_exit ?_
 refine then_x ?_
 refine then_x ?_
 refine in_hit ?_
 refine then_n ?_
 refine wp_seq ?_
 refine wp_region_lit ?_
 refine list_val F (wn rfl) rfl rfl (.int .u64 ((rdN xs : Nat) : Int)) (ex_move _ rfl _ (F.e rfl)) ?_; clear F a; intro a F
 refine list_val F (wn rfl) rfl rfl (.int .u64 ((rdN xs : Nat) : Int)) (ex_assign _ rfl _ (F.e rfl)) ?_; clear F a; intro a F
 refine list_val F (wn rfl) rfl rfl (.int .i64 0) (ex_assign _ rfl _ rfl) ?_; clear F a; intro a F
 refine wpList_nil ?_
 replace F : Fr 28 a [(0, .slice A xs.length c), (2, .int .u64 ((rdN xs : Nat) : Int)), (3, .int .i64 0), (4, .int .u64 ((rdN xs : Nat) : Int)), (14, .bool false), (15, .slice A xs.length c), (16, .int .i64 ((xs.length : Nat) : Int)), (17, .int .i64 ((xs.length : Nat) : Int)), (18, .bool false)] := F.keep ⟨rfl, rfl, rfl, rfl, rfl, rfl, rfl, rfl, rfl, trivial⟩
 refine then_n ?_
 refine wp_ret ?_
 rw [hR]
 exact ret_tmp2 F rfl rfl rfl ⟨rfl, M.bel⟩
set_option maxHeartbeats 1000000 in
set_option maxRecDepth 100000 in
theorem within_any (x : Int) (w : World) : Calls Tryd.prog 9 #[.int .i64 x, .int .i64 8] w fun e w' => e = .returned (.int .i64 ((wi x : Nat) : Int)) ∧ Below w.heap.size w w' := by
 refine calls_start Tryd.func9 rfl rfl rfl (fun a F => ?_)
 have M : Mm w w [] := Mm.nil w
 refine wp_seq ?_
 refine wp_region_lit ?_
 refine list_val F (wn rfl) rfl rfl (.int .i64 0) (ex_assign _ rfl _ rfl) ?_; clear F a; intro a F
 refine wpList_nil ?_
 replace F : Fr 14 a [(0, .int .i64 x), (1, .int .i64 8), (4, .int .i64 0)] := F.keep ⟨rfl, rfl, rfl, trivial⟩
 refine then_n ?_
 refine wp_seq ?_
 refine wp_region_lit ?_
 refine list_val F (wn rfl) rfl rfl (.int .i64 x) (ex_move _ rfl _ (F.e rfl)) ?_; clear F a; intro a F
 refine list_val F (wn rfl) rfl rfl (.int .i64 8) (ex_move _ rfl _ (F.e rfl)) ?_; clear F a; intro a F
 refine list_val F (wn rfl) rfl rfl (.int .i64 (x.tmod 8)) (ex_bin .rem _ _ _ _ rfl .i64 _ _ (F.e rfl) (F.e rfl) _ (b_rem (by decide) rfl)) ?_; clear F a; intro a F
 refine list_val F (wn rfl) rfl rfl (.int .i64 (x.tmod 8)) (ex_assign _ rfl _ (F.e rfl)) ?_; clear F a; intro a F
 refine wpList_nil ?_
 replace F : Fr 14 a [(0, .int .i64 (x.tmod 8)), (1, .int .i64 8), (4, .int .i64 0)] := F.keep ⟨rfl, rfl, rfl, trivial⟩
 refine then_n ?_
 refine wp_seq ?_
 refine wp_seq ?_
 by_cases hng : x.tmod 8 < 0
 ·
  refine wp_region_lit ?_
  refine list_val F (wn rfl) rfl rfl (.int .i64 (x.tmod 8)) (ex_move _ rfl _ (F.e rfl)) ?_; clear F a; intro a F
  refine list_val F (wn rfl) rfl rfl (.bool true) (ex_bin .lss _ _ _ _ rfl .i64 _ _ (F.e rfl) rfl _ (b_lss (decide_eq_true hng))) ?_; clear F a; intro a F
  refine wpList_nil ?_
  replace F : Fr 14 a [(0, .int .i64 (x.tmod 8)), (1, .int .i64 8), (4, .int .i64 0), (9, .bool true)] := F.keep ⟨rfl, rfl, rfl, rfl, trivial⟩
  refine then_n ?_
  refine wp_cond_true (F.e rfl) ?_
  refine wp_region_lit ?_
  refine list_val F (wn rfl) rfl rfl (.int .i64 (x.tmod 8)) (ex_move _ rfl _ (F.e rfl)) ?_; clear F a; intro a F
  refine list_val F (wn rfl) rfl rfl (.int .i64 8) (ex_move _ rfl _ (F.e rfl)) ?_; clear F a; intro a F
  refine list_val F (wn rfl) rfl rfl (.int .i64 ((wi x : Nat) : Int)) (ex_bin .add _ _ _ _ rfl .i64 _ _ (F.e rfl) (F.e rfl) _ (b_add (by rw [wi_neg hng]; exact w_i64 (by unfold wi; omega) (by unfold wi; omega)))) ?_; clear F a; intro a F
  refine list_val F (wn rfl) rfl rfl (.int .i64 ((wi x : Nat) : Int)) (ex_assign _ rfl _ (F.e rfl)) ?_; clear F a; intro a F
  refine wpList_nil ?_
  replace F : Fr 14 a [(0, .int .i64 ((wi x : Nat) : Int)), (1, .int .i64 8), (4, .int .i64 0), (9, .bool true)] := F.keep ⟨rfl, rfl, rfl, rfl, trivial⟩
  refine then_n ?_
  refine wp_seq ?_
  refine wp_region_lit ?_
  refine list_val F (wn rfl) rfl rfl (.int .i64 ((wi x : Nat) : Int)) (ex_move _ rfl _ (F.e rfl)) ?_; clear F a; intro a F
  refine list_val F (wn rfl) rfl rfl (.int .i64 ((wi x : Nat) : Int)) (ex_assign _ rfl _ (F.e rfl)) ?_; clear F a; intro a F
  refine wpList_nil ?_
  replace F : Fr 14 a [(0, .int .i64 ((wi x : Nat) : Int)), (1, .int .i64 8), (4, .int .i64 ((wi x : Nat) : Int)), (9, .bool true)] := F.keep ⟨rfl, rfl, rfl, rfl, trivial⟩
  refine then_n ?_
  refine wp_ret ?_
  exact ret_tmp F rfl rfl ⟨rfl, M.bel⟩
 refine wp_region_lit ?_
 refine list_val F (wn rfl) rfl rfl (.int .i64 (x.tmod 8)) (ex_move _ rfl _ (F.e rfl)) ?_; clear F a; intro a F
 refine list_val F (wn rfl) rfl rfl (.bool false) (ex_bin .lss _ _ _ _ rfl .i64 _ _ (F.e rfl) rfl _ (b_lss (decide_eq_false hng))) ?_; clear F a; intro a F
 refine wpList_nil ?_
 replace F : Fr 14 a [(0, .int .i64 (x.tmod 8)), (1, .int .i64 8), (4, .int .i64 0), (9, .bool false)] := F.keep ⟨rfl, rfl, rfl, rfl, trivial⟩
 refine then_n ?_
 refine wp_cond_false (F.e rfl) ?_
 refine wp_skip ?_
 refine then_n ?_
 refine wp_seq ?_
 rw [wi_pos hng] at F
 refine wp_region_lit ?_
 refine list_val F (wn rfl) rfl rfl (.int .i64 ((wi x : Nat) : Int)) (ex_move _ rfl _ (F.e rfl)) ?_; clear F a; intro a F
 refine list_val F (wn rfl) rfl rfl (.int .i64 ((wi x : Nat) : Int)) (ex_assign _ rfl _ (F.e rfl)) ?_; clear F a; intro a F
 refine wpList_nil ?_
 replace F : Fr 14 a [(0, .int .i64 ((wi x : Nat) : Int)), (1, .int .i64 8), (4, .int .i64 ((wi x : Nat) : Int)), (9, .bool false)] := F.keep ⟨rfl, rfl, rfl, rfl, trivial⟩
 refine then_n ?_
 refine wp_ret ?_
 exact ret_tmp F rfl rfl ⟨rfl, M.bel⟩
set_option maxHeartbeats 1000000 in
set_option maxRecDepth 100000 in
theorem before_any (xs ys : List UInt8) (A D : Option Addr) (c d : Nat) (w : World) (hrx : ST.kB.C w A xs.length xs) (hry : ST.kB.C w D ys.length ys) :
    Calls Tryd.prog 12 #[.slice A xs.length c, .slice D ys.length d] w fun e w' => e = .returned (.bool (Op.bytesLess xs ys)) ∧ Below w.heap.size w w' := by
 refine calls_start Tryd.func12 rfl rfl rfl (fun a F => ?_)
 have M : Mm w w [] := Mm.nil w
 refine wp_seq ?_
 refine wp_region_lit ?_
 refine list_val F (wn rfl) rfl rfl (.bool false) (ex_assign _ rfl _ rfl) ?_; clear F a; intro a F
 refine wpList_nil ?_
 replace F : Fr 10 a [(0, .slice A xs.length c), (1, .slice D ys.length d), (4, .bool false)] := F.keep ⟨rfl, rfl, rfl, trivial⟩
 refine then_n ?_
 refine wp_seq ?_
 refine wp_region_lit ?_
 refine list_val F (wn rfl) rfl rfl (.slice A xs.length c) (ex_move _ rfl _ (F.e rfl)) ?_; clear F a; intro a F
 refine list_val F (wn rfl) rfl rfl (.string (ST.str xs)) (ST.ex_tos 28 9 _ rfl 5 Tryd.underlying28 un5 un9 A xs.length c xs (F.e rfl) (Kd.C_below hrx M.bel)) ?_; clear F a; intro a F
 refine list_val F (wn rfl) rfl rfl (.slice D ys.length d) (ex_move _ rfl _ (F.e rfl)) ?_; clear F a; intro a F
 refine list_val F (wn rfl) rfl rfl (.string (ST.str ys)) (ST.ex_tos 28 9 _ rfl 5 Tryd.underlying28 un5 un9 D ys.length d ys (F.e rfl) (Kd.C_below hry M.bel)) ?_; clear F a; intro a F
 refine list_val F (wn rfl) rfl rfl (.bool (Op.bytesLess xs ys)) (ex_lsss _ _ _ _ rfl xs ys (F.e rfl) (F.e rfl) _ rfl) ?_; clear F a; intro a F
 refine list_val F (wn rfl) rfl rfl (.bool (Op.bytesLess xs ys)) (ex_assign _ rfl _ (F.e rfl)) ?_; clear F a; intro a F
 refine wpList_nil ?_
 replace F : Fr 10 a [(0, .slice A xs.length c), (1, .slice D ys.length d), (4, .bool (Op.bytesLess xs ys))] := F.keep ⟨rfl, rfl, rfl, trivial⟩
 refine then_n ?_
 refine wp_ret ?_
 exact ret_tmp F rfl rfl ⟨rfl, M.bel⟩
end Go.Proofs.YtadaacoddfkalaaDoor
