/- posternlaw4.DigestKnown with hexed, known. Conditions: the table is laid. -/
import Derived.Test.YtkppipeadibfkaaDoorP0
namespace Go.Proofs.YtkppipeadibfkaaDoor
open Go.RowKit Go.Proofs.YtkppipeadibfkaaDoorW.PrintWords KB WG
set_option linter.unusedVariables false
set_option linter.unusedSimpArgs false
set_option linter.unnecessarySimpa false
def hexD (d : By) : By := if d.toNat < 10 then 48 + d else 87 + d
def hexB (l : List By) : List By := l.flatMap fun b => [hexD (b / 16), hexD (b % 16)]
theorem hexB_len (l : List By) : (hexB l).length = 2 * l.length := by
  induction l with
  | nil => rfl
  | cons x l ih => rw [hexB, List.flatMap_cons, List.length_append, ← hexB, ih]; simp; omega
theorem hexB_next {l : List By} {i : Nat} (hi : i < l.length) : hexB (l.take i) ++ [hexD (l.getD i 0 / 16)] ++ [hexD (l.getD i 0 % 16)] = hexB (l.take (i + 1)) := by
  rw [List.take_succ_eq_append_getElem hi, hexB, hexB, List.flatMap_append, List.getD_eq_getElem?_getD, List.getElem?_eq_getElem hi]
  simp
def digs : List By := [48, 49, 50, 51, 52, 53, 54, 55, 56, 57, 97, 98, 99, 100, 101, 102]
theorem digs_get : ∀ d : By, d.toNat < 16 → digs.getD d.toNat 0 = hexD d := by decide +kernel
theorem by_quo (x : By) : IntKind.u8.wrap ((x.toNat : Int).tdiv 16) = ((x / 16 : By).toNat : Int) := by
  rw [show ((x.toNat : Int)).tdiv 16 = ((x.toNat / 16 : Nat) : Int) from rfl, w8, BitVec.toNat_ofNat, Nat.mod_eq_of_lt (Nat.lt_of_le_of_lt (Nat.div_le_self _ _) x.isLt), BitVec.toNat_udiv]
  rfl
theorem by_rem (x : By) : (x.toNat : Int).tmod 16 = ((x % 16 : By).toNat : Int) := by
  rw [show ((x.toNat : Int)).tmod 16 = ((x.toNat % 16 : Nat) : Int) from rfl, BitVec.toNat_umod]
  rfl
theorem quo_lt (x : By) : (x / (16 : By)).toNat < 16 := by
  rw [BitVec.toNat_udiv]
  have := x.isLt
  show x.toNat / 16 < 16
  omega
theorem rem_lt (x : By) : (x % (16 : By)).toNat < 16 := by
  rw [BitVec.toNat_umod]
  show x.toNat % 16 < 16
  omega
theorem un9 : Tryd.prog.underlying 9 = some .string := by kernel_rfl
theorem strB_app (x y : List By) : strB x ++ strB y = strB (x ++ y) := by
  have h : ∀ (p q : Array UInt8), (⟨p⟩ : ByteArray) ++ ⟨q⟩ = ⟨p ++ q⟩ := fun p q => by
    apply ByteArray.ext
    simp
  unfold strB
  rw [h, List.map_append]
  simp
theorem chr_ok : ∀ d : By, d.toNat < 128 → Utf8.encode (d.toNat : Int) = strB [d] := by decide +kernel
section
variable {op : Oper} {ρ : Operand → Value} {w : World}
theorem ex_adds (T' : TypeId) (x y : Operand) (ho : op.op = .binOp .add 9 x y T') (l m : List By) (hx : ρ x = .string (strB l)) (hy : ρ y = .string (strB m)) (hl : l.length + m.length ≤ 1000000) (r : List By) (hr : l ++ m = r) : (execOp ρ op).run Tryd.prog w = .ok (.value (.string (strB r))) w := by
  have hb : (binOp .add 9 (.string (strB l)) (.string (strB m))).run Tryd.prog w = .ok (.string (strB r)) w := by
    show (Op.stringOp .add (strB l) (strB m)).run Tryd.prog w = _
    unfold Op.stringOp
    simp only [strB_size]
    rw [if_neg (by simp [IntKind.max, IntKind.bits, IntKind.signed]; omega), strB_app, hr]
    rfl
  have hg : (eqGuard .add 9 x y (.string (strB l)) (.string (strB m))).run Tryd.prog w = .ok () w := by simp [eqGuard]
  unfold execOp
  simp only [ho, hx, hy, Sem.run_bind, hg, hb, Result.andThen_ok, Sem.run_pure]
/-- A byte of a string. -/
theorem ex_ixs (x y : Operand) (ho : op.op = .index 9 x y) (l : List By) (hx : ρ x = .string (strB l)) (d : By) (hy : ρ y = bv d) (hlt : d.toNat < l.length) (r : By) (hr : l.getD d.toNat 0 = r) : (execOp ρ op).run Tryd.prog w = .ok (.value (bv r)) w := by
  subst hr
  have hr := run_index_string (P := Tryd.prog) w 9 (strB l) .u8 (d.toNat : Int) un9
  unfold execOp
  simp only [ho, hx, hy, bv, Sem.run_bind, hr]
  have hi : 0 ≤ (d.toNat : Int) ∧ (d.toNat : Int) < ((strB l).size : Int) := by rw [strB_size]; omega
  have hv : ((strB l)[((d.toNat : Int)).toNat]'(by omega)).toNat = (l.getD d.toNat 0).toNat := by
    have hh : ((strB l)[((d.toNat : Int)).toNat]'(by omega)) = UInt8.ofBitVec (l.getD d.toNat 0) := by
      show (l.map UInt8.ofBitVec).toArray[((d.toNat : Int)).toNat]'_ = _
      simp [List.getD_eq_getElem?_getD, List.getElem?_eq_getElem hlt]
    rw [hh]
    rfl
  rw [dif_pos hi, hv]
  rfl
/-- string(b) of a byte. -/
theorem ex_chr (x : Operand) (ho : op.op = .convert 5 9 x) (d : By) (hx : ρ x = bv d) (h : d.toNat < 128) : (execOp ρ op).run Tryd.prog w = .ok (.value (.string (strB [d]))) w := by
  have hr := run_convert_int_string (P := Tryd.prog) w 5 9 .u8 (d.toNat : Int) (by kernel_rfl) un9
  rw [chr_ok d h] at hr
  unfold execOp
  simp only [ho, hx, bv, Sem.run_bind, hr, Result.andThen_ok, Sem.run_pure]
end
theorem hexD_lt : ∀ d : By, d.toNat < 16 → (hexD d).toNat < 128 := by decide +kernel
theorem hexB_take (l : List By) (i : Nat) (h : l.length = 32) : (hexB (l.take i)).length ≤ 64 := by rw [hexB_len, List.length_take]; omega
def szs : List Nat := [0, 1, 55, 56, 64]
def ncs (l : List Nat) : List Value := l.map fun (n : Nat) => .int .i64 (n : Int)
theorem ncs_arr {l : List Nat} {i : Nat} (h : i < l.length) : ((ncs l).toArray)[i]? = some (.int .i64 ((l.getD i 0 : Nat) : Int)) := by
  rw [List.getElem?_toArray]; simp [ncs, List.getD_eq_getElem?_getD, List.getElem?_eq_getElem h]
theorem sz_le : ∀ i, i < 5 → szs.getD i 0 ≤ 64 := by decide
theorem build70 (w : World) : (Instr.build 70 #[(0, .int .i64 0), (1, .int .i64 1), (2, .int .i64 55), (3, .int .i64 56), (4, .int .i64 64)]).run Tryd.prog w = .ok (.agg (ncs szs).toArray) w := by kernel_rfl
theorem z70 (w : World) : (zeroValue 70).run Tryd.prog w = .ok (.agg (ncs [0, 0, 0, 0, 0]).toArray) w := by kernel_rfl
theorem rep_app (k : Nat) (x : By) : List.replicate k x ++ [x] = List.replicate (k + 1) x := List.replicate_succ'.symm
def kn0 : List By := [101, 51, 98, 48, 99, 52, 52, 50, 57, 56, 102, 99, 49, 99, 49, 52, 57, 97, 102, 98, 102, 52, 99, 56, 57, 57, 54, 102, 98, 57, 50, 52, 50, 55, 97, 101, 52, 49, 101, 52, 54, 52, 57, 98, 57, 51, 52, 99, 97, 52, 57, 53, 57, 57, 49, 98, 55, 56, 53, 50, 98, 56, 53, 53]
def kn1 : List By := [99, 97, 57, 55, 56, 49, 49, 50, 99, 97, 49, 98, 98, 100, 99, 97, 102, 97, 99, 50, 51, 49, 98, 51, 57, 97, 50, 51, 100, 99, 52, 100, 97, 55, 56, 54, 101, 102, 102, 56, 49, 52, 55, 99, 52, 101, 55, 50, 98, 57, 56, 48, 55, 55, 56, 53, 97, 102, 101, 101, 52, 56, 98, 98]
def kn2 : List By := [57, 102, 52, 51, 57, 48, 102, 56, 100, 51, 48, 99, 50, 100, 100, 57, 50, 101, 99, 57, 102, 48, 57, 53, 98, 54, 53, 101, 50, 98, 57, 97, 101, 57, 98, 48, 97, 57, 50, 53, 97, 53, 50, 53, 56, 101, 50, 52, 49, 99, 57, 102, 49, 101, 57, 49, 48, 102, 55, 51, 52, 51, 49, 56]
def kn3 : List By := [98, 51, 53, 52, 51, 57, 97, 52, 97, 99, 54, 102, 48, 57, 52, 56, 98, 54, 100, 54, 102, 57, 101, 51, 99, 54, 97, 102, 48, 102, 53, 102, 53, 57, 48, 99, 101, 50, 48, 102, 49, 98, 100, 101, 55, 48, 57, 48, 101, 102, 55, 57, 55, 48, 54, 56, 54, 101, 99, 54, 55, 51, 56, 97]
def kn4 : List By := [102, 102, 101, 48, 53, 52, 102, 101, 55, 97, 101, 48, 99, 98, 54, 100, 99, 54, 53, 99, 51, 97, 102, 57, 98, 54, 49, 100, 53, 50, 48, 57, 102, 52, 51, 57, 56, 53, 49, 100, 98, 52, 51, 100, 48, 98, 97, 53, 57, 57, 55, 51, 51, 55, 100, 102, 49, 53, 52, 54, 54, 56, 101, 98]
def kn (i : Nat) : List By := [kn0, kn1, kn2, kn3, kn4].getD i []
section
set_option maxRecDepth 100000
theorem k_0 : hexB (outB (blk hIni (full (List.replicate 0 97)))) = kn0 := by decide +kernel
theorem kk_0 : hexB (sha (List.replicate 0 97)) = kn0 := by rw [sha_one (by decide +kernel), k_0]
theorem k_1 : hexB (outB (blk hIni (full (List.replicate 1 97)))) = kn1 := by decide +kernel
theorem kk_1 : hexB (sha (List.replicate 1 97)) = kn1 := by rw [sha_one (by decide +kernel), k_1]
theorem k_2 : hexB (outB (blk hIni (full (List.replicate 55 97)))) = kn2 := by decide +kernel
theorem kk_2 : hexB (sha (List.replicate 55 97)) = kn2 := by rw [sha_one (by decide +kernel), k_2]
theorem k_3 : hexB (two (List.replicate 56 97)) = kn3 := by decide +kernel
theorem kk_3 : hexB (sha (List.replicate 56 97)) = kn3 := (congrArg hexB (sha_two (by decide +kernel))).trans k_3
theorem k_4 : hexB (two (List.replicate 64 97)) = kn4 := by decide +kernel
theorem kk_4 : hexB (sha (List.replicate 64 97)) = kn4 := (congrArg hexB (sha_two (by decide +kernel))).trans k_4
theorem kn_ok (i : Nat) (hi : i < 5) : hexB (sha (List.replicate (szs.getD i 0) 97)) = kn i := by
  match i, hi with
  | 0, _ => exact kk_0
  | 1, _ => exact kk_1
  | 2, _ => exact kk_2
  | 3, _ => exact kk_3
  | 4, _ => exact kk_4
def elev : List By := [11, 11, 11, 11, 11, 11, 11, 11, 11, 11, 11, 11, 11, 11, 11, 11, 11, 11, 11, 11]
def hi8 : List By := [72, 105, 32, 84, 104, 101, 114, 101]
theorem mac_hi : mac elev hi8 = two (kout elev (two (kin elev hi8))) := by
  have e : sha (kin elev hi8) = two (kin elev hi8) := sha_two (by decide +kernel)
  have e2 : sha (kout elev (two (kin elev hi8))) = two (kout elev (two (kin elev hi8))) := sha_two (by decide +kernel)
  rw [mac_short (by decide), e, e2]
def knM : List By := [98, 48, 51, 52, 52, 99, 54, 49, 100, 56, 100, 98, 51, 56, 53, 51, 53, 99, 97, 56, 97, 102, 99, 101, 97, 102, 48, 98, 102, 49, 50, 98, 56, 56, 49, 100, 99, 50, 48, 48, 99, 57, 56, 51, 51, 100, 97, 55, 50, 54, 101, 57, 51, 55, 54, 99, 50, 101, 51, 50, 99, 102, 102, 55]
theorem k_mac : hexB (two (kout elev (two (kin elev hi8)))) = knM := by decide +kernel
theorem kMac : hexB (mac [11, 11, 11, 11, 11, 11, 11, 11, 11, 11, 11, 11, 11, 11, 11, 11, 11, 11, 11, 11] [72, 105, 32, 84, 104, 101, 114, 101]) = [98, 48, 51, 52, 52, 99, 54, 49, 100, 56, 100, 98, 51, 56, 53, 51, 53, 99, 97, 56, 97, 102, 99, 101, 97, 102, 48, 98, 102, 49, 50, 98, 56, 56, 49, 100, 99, 50, 48, 48, 99, 57, 56, 51, 51, 100, 97, 55, 50, 54, 101, 57, 51, 55, 54, 99, 50, 101, 51, 50, 99, 102, 102, 55] := (congrArg hexB mac_hi).trans k_mac
end
section
variable {a : Act} {w w0 : World} {n : Nat} {L : List (Nat × Value)} {H : List Blk} {lr : List Rw} {op : Oper} {K : Act → World → Prop} {Q : Exit → Act → World → Prop}
theorem ow_markR (F : Fr n a L) {d : Nat} (hd : op.dst = some d) (hlt : Nat.blt d n = true) (x : Operand) (ho : op.op = .convert 23 23 x) (g : Nat) (bs : List By) (l : Nat) (M : Mm w0 w H) (hT : H.all (fun b => b.t != 5) = true) (R : Rs w0 w ((.slice (some ⟨g, 0, none⟩) l l, bs) :: lr)) (hx : a.eval x = .slice (some ⟨g, 0, none⟩) l l) (h0 : 0 < l)
    (h : ∀ a' w', Fr n a' ((d, .slice (some ⟨g, 0, none⟩) l l) :: L) → Mm w0 w' H → Rs w0 w' lr → Rb w' (some ⟨g, 0, none⟩) l bs → K a' w') : op.wp Tryd.prog a w K Q := by
  have hO := R.own 0 _ _ rfl
  obtain ⟨g', sp, e, hg0, hh, hc, _, _⟩ := hO.open h0
  simp only [Option.some.injEq, Addr.mk.injEq, and_true] at e
  subst e
  have hr := run_mark w g l _ hh
  have hg := freeze_grown w g (bcs bs ++ sp).toArray.size
  have M' := M.grownB hO hT hg
  have R' : Rs w0 (w.freeze ⟨g, (bcs bs ++ sp).toArray.size, none⟩ 1) lr := ⟨fun i u cs hi => (R.own (i + 1) u cs (by simpa using hi)).far hg (fun k hk e2 => by
      have := R.nd (i + 1) 0 u _ cs bs k (by simpa using hi) rfl hk (by show some g = some k; exact e2.symm)
      omega), fun i j u u2 cs ds k hi hj e1 e2 => by
      have := R.nd (i + 1) (j + 1) u u2 cs ds k (by simpa using hi) (by simpa using hj) e1 e2
      omega⟩
  have hRb : Rb (w.freeze ⟨g, (bcs bs ++ sp).toArray.size, none⟩ 1) (some ⟨g, 0, none⟩) l bs := Rb.mk' (fun j v hv => by rw [freeze_cell]; exact (R.rb (i := 0) rfl).at j v hv) (R.rb (i := 0) rfl).1 (R.rb (i := 0) rfl).2.1
  unfold Oper.wp execOp
  simp only [ho, hx, Sem.run_bind, hr, Result.andThen_ok, Sem.run_pure]
  exact (by rw [hd]; exact h _ _ (F.put _ hlt) M' R' hRb : K (a.put op.dst _) _)
end
def rp (k : Nat) : List By := List.replicate k 97
theorem rp_len (k : Nat) : (rp k).length = k := List.length_replicate
theorem rp_app (k : Nat) : rp k ++ [97] = rp (k + 1) := rep_app k 97
theorem kn_rp (i : Nat) (hi : i < 5) : hexB (sha (rp (szs.getD i 0))) = kn i := kn_ok i hi
theorem ea_follows_mixedOrders : Tryd.prog.follows .mixedOrders = true := by kernel_rfl
theorem ea_ar_24_32 : ar? Tryd.prog 24 32 = true := by kernel_rfl
theorem ea_one_5 : one? Tryd.prog 5 = true := by kernel_rfl
set_option maxHeartbeats 4000000 in
set_option maxRecDepth 100000 in
theorem hexed_any (l : List By) (hl32 : l.length = 32) (w : World) :
    Calls Tryd.prog 38 #[.agg (bcs l).toArray] w fun e w' => e = .returned (.string (strB (hexB l))) ∧ Below w.heap.size w w' := by
 refine calls_start Tryd.func38 rfl rfl rfl (fun a F => ?_)
 have M : Mm w w [] := Mm.nil w
 refine wp_seq ?_
 refine wp_region_lit ?_
 refine list_do (wn rfl) (fun K hK => ?_)
 refine ow_box F M rfl rfl 24 _ rfl _ (F.e rfl) ((bcs l).toArray) rfl ?_
 clear F M a; intro a g1 v F M hb hg
 refine hK _ _ ?_
 clear hK K
 clear hb hg; try clear w
 refine list_val F (wn rfl) rfl rfl (.string (strB ([]))) (ex_assign _ rfl _ rfl) ?_; clear F a; intro a F
 refine wpList_nil ?_
 replace F : Fr 25 a [(0, .agg ((bcs l).toArray)), (1, .pointer (some ⟨g1, 0, none⟩)), (2, .string (strB ([])))] := F.keep ⟨rfl, rfl, rfl, trivial⟩
 refine then_n ?_
 refine wp_seq ?_
 refine wp_region_lit ?_
 refine list_val F (wn rfl) rfl rfl (.string (strB ([]))) (ex_assign _ rfl _ rfl) ?_; clear F a; intro a F
 refine wpList_nil ?_
 replace F : Fr 25 a [(0, .agg ((bcs l).toArray)), (1, .pointer (some ⟨g1, 0, none⟩)), (2, .string (strB ([]))), (3, .string (strB ([])))] := F.keep ⟨rfl, rfl, rfl, rfl, trivial⟩
 refine then_n ?_
 refine wp_seq ?_
 refine wp_seq ?_
 refine wp_region_lit ?_
 refine list_val F (wn rfl) rfl rfl (.int .i64 0) (ex_assign _ rfl _ rfl) ?_; clear F a; intro a F
 refine wpList_nil ?_
 replace F : Fr 25 a [(0, .agg ((bcs l).toArray)), (1, .pointer (some ⟨g1, 0, none⟩)), (2, .string (strB ([]))), (3, .string (strB ([]))), (4, .int .i64 0)] := F.keep ⟨rfl, rfl, rfl, rfl, rfl, trivial⟩
 refine then_n ?_
 refine wp_block ?_
 refine wp_loopN (fun mq ar wr => ∃ (i : Nat), Fr 25 ar [(0, .agg ((bcs l).toArray)), (1, .pointer (some ⟨g1, 0, none⟩)), (2, .string (strB ([]))), (3, .string (strB (hexB (l.take i)))), (4, .int .i64 ((i : Nat) : Int))] ∧ Mm w wr [⟨g1, ((bcs l).toArray), 24⟩] ∧ i ≤ 32 ∧ mq + i = 32) 32 ?_ ?_
 ·
  exact ⟨0, F.keep ⟨rfl, rfl, rfl, rfl, rfl, trivial⟩, M, (Nat.zero_le _), (by omega)⟩
 clear F M a
 rintro mq a u ⟨i, F, M, hi, hq⟩; try clear v
 have hlh := hexB_take l i hl32
 by_cases hin : i < 32
 ·
  refine wp_seq ?_
  refine wp_seq ?_
  refine wp_region_lit ?_
  refine list_val F (wn rfl) rfl rfl (.int .i64 ((i : Nat) : Int)) (ex_move _ rfl _ (F.e rfl)) ?_; clear F a; intro a F
  refine list_val F (wn rfl) rfl rfl (.bool true) (ex_bin .lss _ _ _ _ rfl .i64 _ _ (F.e rfl) rfl _ (b_lss (decide_eq_true (by omega)))) ?_; clear F a; intro a F
  refine wpList_nil ?_
  replace F : Fr 25 a [(0, .agg ((bcs l).toArray)), (1, .pointer (some ⟨g1, 0, none⟩)), (2, .string (strB ([]))), (3, .string (strB (hexB (l.take i)))), (4, .int .i64 ((i : Nat) : Int)), (6, .bool true)] := F.keep ⟨rfl, rfl, rfl, rfl, rfl, rfl, trivial⟩
  refine then_n ?_
  refine wp_cond_true (F.e rfl) ?_
  refine wp_skip ?_
  refine then_n ?_
  refine wp_seq ?_
  refine wp_block ?_
  refine region_tail 15 ea_follows_mixedOrders (by kernel_rfl) M ?_; clear M; intro v M hb
  clear hb; try clear u
  refine still_val F (wn rfl) rfl rfl (.string (strB (hexB (l.take i)))) (ex_move _ rfl _ (F.e rfl)) ?_; clear F a; intro a F
  refine still_val F (wn rfl) rfl rfl (.int .i64 ((i : Nat) : Int)) (ex_move _ rfl _ (F.e rfl)) ?_; clear F a; intro a F
  refine still_val F (wn rfl) rfl rfl (.pointer (some ⟨g1, i, none⟩)) (ex_ixa _ _ _ rfl 32 ea_ar_24_32 ⟨g1, 0, none⟩ (F.e rfl) .i64 _ (F.e rfl) i rfl (by omega) ⟨g1, i, none⟩ ((addr_add _ _ _).trans (by rw [Nat.zero_add]))) ?_; clear F a; intro a F
  refine still_val F (wn rfl) rfl rfl (bv (l.getD i 0)) (ex_load _ _ rfl _ (F.e rfl) _ (lv1 ea_one_5 (M.cell (i := 0) rfl (j := i) (bcs_arr (by omega))))) ?_; clear F a; intro a F
  refine still_val F (wn rfl) rfl rfl (bv ((l.getD i 0) / 16)) (ex_bin .quo _ _ _ _ rfl .u8 _ _ (F.e rfl) rfl _ (b_quo (by decide) (by_quo _))) ?_; clear F a; intro a F
  refine still_val F (wn rfl) rfl rfl (bv (hexD ((l.getD i 0) / 16))) (ex_ixs _ _ rfl digs rfl ((l.getD i 0) / 16) (F.e rfl) (quo_lt _) (hexD ((l.getD i 0) / 16)) (digs_get _ (quo_lt _))) ?_; clear F a; intro a F
  refine still_val F (wn rfl) rfl rfl (.string (strB ([hexD ((l.getD i 0) / 16)]))) (ex_chr _ rfl (hexD ((l.getD i 0) / 16)) (F.e rfl) (hexD_lt _ (quo_lt _))) ?_; clear F a; intro a F
  refine still_val F (wn rfl) rfl rfl (.string (strB ((hexB (l.take i)) ++ [hexD ((l.getD i 0) / 16)]))) (ex_adds _ _ _ rfl (hexB (l.take i)) ([hexD ((l.getD i 0) / 16)]) (F.e rfl) (F.e rfl) (by simp only [List.length_append, List.length_cons, List.length_nil]; omega) ((hexB (l.take i)) ++ [hexD ((l.getD i 0) / 16)]) rfl) ?_; clear F a; intro a F
  refine still_val F (wn rfl) rfl rfl (.int .i64 ((i : Nat) : Int)) (ex_move _ rfl _ (F.e rfl)) ?_; clear F a; intro a F
  refine still_val F (wn rfl) rfl rfl (.pointer (some ⟨g1, i, none⟩)) (ex_ixa _ _ _ rfl 32 ea_ar_24_32 ⟨g1, 0, none⟩ (F.e rfl) .i64 _ (F.e rfl) i rfl (by omega) ⟨g1, i, none⟩ ((addr_add _ _ _).trans (by rw [Nat.zero_add]))) ?_; clear F a; intro a F
  refine still_val F (wn rfl) rfl rfl (bv (l.getD i 0)) (ex_load _ _ rfl _ (F.e rfl) _ (lv1 ea_one_5 (M.cell (i := 0) rfl (j := i) (bcs_arr (by omega))))) ?_; clear F a; intro a F
  refine still_val F (wn rfl) rfl rfl (bv ((l.getD i 0) % 16)) (ex_bin .rem _ _ _ _ rfl .u8 _ _ (F.e rfl) rfl _ (b_rem (by decide) (by_rem _))) ?_; clear F a; intro a F
  refine still_val F (wn rfl) rfl rfl (bv (hexD ((l.getD i 0) % 16))) (ex_ixs _ _ rfl digs rfl ((l.getD i 0) % 16) (F.e rfl) (rem_lt _) (hexD ((l.getD i 0) % 16)) (digs_get _ (rem_lt _))) ?_; clear F a; intro a F
  refine still_val F (wn rfl) rfl rfl (.string (strB ([hexD ((l.getD i 0) % 16)]))) (ex_chr _ rfl (hexD ((l.getD i 0) % 16)) (F.e rfl) (hexD_lt _ (rem_lt _))) ?_; clear F a; intro a F
  refine still_val F (wn rfl) rfl rfl (.string (strB (hexB (l.take (i + 1))))) (ex_adds _ _ _ rfl ((hexB (l.take i)) ++ [hexD ((l.getD i 0) / 16)]) ([hexD ((l.getD i 0) % 16)]) (F.e rfl) (F.e rfl) (by simp only [List.length_append, List.length_cons, List.length_nil]; omega) (hexB (l.take (i + 1))) (hexB_next (by omega))) ?_; clear F a; intro a F
  refine still_end ?_
  refine list_val F (wn rfl) rfl rfl (.string (strB (hexB (l.take (i + 1))))) (ex_assign _ rfl _ (F.e rfl)) ?_; clear F a; intro a F
  refine wpList_nil ?_
  replace F : Fr 25 a [(0, .agg ((bcs l).toArray)), (1, .pointer (some ⟨g1, 0, none⟩)), (2, .string (strB ([]))), (3, .string (strB (hexB (l.take (i + 1))))), (4, .int .i64 ((i : Nat) : Int)), (6, .bool true)] := F.keep ⟨rfl, rfl, rfl, rfl, rfl, rfl, trivial⟩
  refine in_n ?_
  refine then_n ?_
  refine wp_region_lit ?_
  refine list_val F (wn rfl) rfl rfl (.int .i64 ((i : Nat) : Int)) (ex_move _ rfl _ (F.e rfl)) ?_; clear F a; intro a F
  refine list_val F (wn rfl) rfl rfl (.int .i64 ((i + 1 : Nat) : Int)) (ex_bin .add _ _ _ _ rfl .i64 _ _ (F.e rfl) rfl _ (b_add ((w_i64 (by omega) (by omega)).trans (by omega)))) ?_; clear F a; intro a F
  refine list_val F (wn rfl) rfl rfl (.int .i64 ((i + 1 : Nat) : Int)) (ex_assign _ rfl _ (F.e rfl)) ?_; clear F a; intro a F
  refine wpList_nil ?_
  replace F : Fr 25 a [(0, .agg ((bcs l).toArray)), (1, .pointer (some ⟨g1, 0, none⟩)), (2, .string (strB ([]))), (3, .string (strB (hexB (l.take (i + 1))))), (4, .int .i64 ((i + 1 : Nat) : Int)), (6, .bool true)] := F.keep ⟨rfl, rfl, rfl, rfl, rfl, rfl, trivial⟩
  refine then_n ?_
  exact ⟨32 - (i + 1), by omega, (i + 1), F.keep ⟨rfl, rfl, rfl, rfl, rfl, trivial⟩, (by refine M.pick' [0] _ ?_ (by decide); exact ⟨rfl, trivial⟩), (by omega), (by omega)⟩
 rw [List.take_of_length_le (by omega)] at F
 refine wp_seq ?_
 refine wp_seq ?_
 refine wp_region_lit ?_
 refine list_val F (wn rfl) rfl rfl (.int .i64 ((i : Nat) : Int)) (ex_move _ rfl _ (F.e rfl)) ?_; clear F a; intro a F
 refine list_val F (wn rfl) rfl rfl (.bool false) (ex_bin .lss _ _ _ _ rfl .i64 _ _ (F.e rfl) rfl _ (b_lss (decide_eq_false (by omega)))) ?_; clear F a; intro a F
 refine wpList_nil ?_
 replace F : Fr 25 a [(0, .agg ((bcs l).toArray)), (1, .pointer (some ⟨g1, 0, none⟩)), (2, .string (strB ([]))), (3, .string (strB (hexB l))), (4, .int .i64 ((i : Nat) : Int)), (6, .bool false)] := F.keep ⟨rfl, rfl, rfl, rfl, rfl, rfl, trivial⟩
 refine then_n ?_
 refine wp_cond_false (F.e rfl) ?_
 refine wp_exit ?_
 refine then_x ?_
 refine then_x ?_
 refine in_hit ?_
 refine then_n ?_
 refine wp_seq ?_
 refine wp_region_lit ?_
 refine list_val F (wn rfl) rfl rfl (.string (strB (hexB l))) (ex_move _ rfl _ (F.e rfl)) ?_; clear F a; intro a F
 refine list_val F (wn rfl) rfl rfl (.string (strB (hexB l))) (ex_assign _ rfl _ (F.e rfl)) ?_; clear F a; intro a F
 refine wpList_nil ?_
 replace F : Fr 25 a [(0, .agg ((bcs l).toArray)), (1, .pointer (some ⟨g1, 0, none⟩)), (2, .string (strB (hexB l))), (3, .string (strB (hexB l))), (4, .int .i64 ((i : Nat) : Int)), (6, .bool false)] := F.keep ⟨rfl, rfl, rfl, rfl, rfl, rfl, trivial⟩
 refine then_n ?_
 refine wp_ret ?_
 exact ret_tmp F rfl rfl ⟨rfl, M.bel⟩
set_option maxHeartbeats 4000000 in
set_option maxRecDepth 100000 in
theorem known_0 (w : World) : Calls Tryd.prog 39 #[.int .i64 0] w fun e w' => e = .returned (.string (strB kn0)) ∧ Below w.heap.size w w' := by
 refine calls_start Tryd.func39 rfl rfl rfl (fun a F => ?_)
 have M : Mm w w [] := Mm.nil w
 refine wp_seq ?_
 refine wp_region_lit ?_
 refine list_val F (wn rfl) rfl rfl (.string (strB ([]))) (ex_assign _ rfl _ rfl) ?_; clear F a; intro a F
 refine wpList_nil ?_
 replace F : Fr 12 a [(0, .int .i64 0), (2, .string (strB ([])))] := F.keep ⟨rfl, rfl, trivial⟩
 refine then_n ?_
 refine wp_seq ?_
 refine wp_seq ?_
 refine wp_region_lit ?_
 refine list_val F (wn rfl) rfl rfl (.int .i64 0) (ex_move _ rfl _ (F.e rfl)) ?_; clear F a; intro a F
 refine wpList_nil ?_
 replace F : Fr 12 a [(0, .int .i64 0), (2, .string (strB ([]))), (3, .int .i64 0)] := F.keep ⟨rfl, rfl, rfl, trivial⟩
 refine then_n ?_
 refine wp_block ?_
 refine wp_seq ?_
 refine wp_region_lit ?_
 refine list_val F (wn rfl) rfl rfl (.bool true) (ex_bin .eql _ _ _ _ rfl .i64 _ _ (F.e rfl) rfl _ (b_eql (by decide))) ?_; clear F a; intro a F
 refine list_val F (wn rfl) rfl rfl (.bool true) (ex_assign _ rfl _ (F.e rfl)) ?_; clear F a; intro a F
 refine wpList_nil ?_
 replace F : Fr 12 a [(0, .int .i64 0), (2, .string (strB ([]))), (3, .int .i64 0), (4, .bool true)] := F.keep ⟨rfl, rfl, rfl, rfl, trivial⟩
 refine then_n ?_
 refine wp_cond_true (F.e rfl) ?_
 refine wp_seq ?_
 refine wp_region_lit ?_
 refine list_val F (wn rfl) rfl rfl (.string (strB kn0)) (ex_assign _ rfl _ rfl) ?_; clear F a; intro a F
 refine wpList_nil ?_
 replace F : Fr 12 a [(0, .int .i64 0), (2, .string (strB kn0)), (3, .int .i64 0), (4, .bool true)] := F.keep ⟨rfl, rfl, rfl, rfl, trivial⟩
 refine then_n ?_
 refine wp_ret ?_
 refine in_r ?_
 refine then_r ?_
 exact ret_tmp F rfl rfl ⟨rfl, M.bel⟩
set_option maxHeartbeats 4000000 in
set_option maxRecDepth 100000 in
theorem known_1 (w : World) : Calls Tryd.prog 39 #[.int .i64 1] w fun e w' => e = .returned (.string (strB kn1)) ∧ Below w.heap.size w w' := by
 refine calls_start Tryd.func39 rfl rfl rfl (fun a F => ?_)
 have M : Mm w w [] := Mm.nil w
 refine wp_seq ?_
 refine wp_region_lit ?_
 refine list_val F (wn rfl) rfl rfl (.string (strB ([]))) (ex_assign _ rfl _ rfl) ?_; clear F a; intro a F
 refine wpList_nil ?_
 replace F : Fr 12 a [(0, .int .i64 1), (2, .string (strB ([])))] := F.keep ⟨rfl, rfl, trivial⟩
 refine then_n ?_
 refine wp_seq ?_
 refine wp_seq ?_
 refine wp_region_lit ?_
 refine list_val F (wn rfl) rfl rfl (.int .i64 1) (ex_move _ rfl _ (F.e rfl)) ?_; clear F a; intro a F
 refine wpList_nil ?_
 replace F : Fr 12 a [(0, .int .i64 1), (2, .string (strB ([]))), (3, .int .i64 1)] := F.keep ⟨rfl, rfl, rfl, trivial⟩
 refine then_n ?_
 refine wp_block ?_
 refine wp_seq ?_
 refine wp_region_lit ?_
 refine list_val F (wn rfl) rfl rfl (.bool false) (ex_bin .eql _ _ _ _ rfl .i64 _ _ (F.e rfl) rfl _ (b_eql (by decide))) ?_; clear F a; intro a F
 refine list_val F (wn rfl) rfl rfl (.bool false) (ex_assign _ rfl _ (F.e rfl)) ?_; clear F a; intro a F
 refine wpList_nil ?_
 replace F : Fr 12 a [(0, .int .i64 1), (2, .string (strB ([]))), (3, .int .i64 1), (4, .bool false)] := F.keep ⟨rfl, rfl, rfl, rfl, trivial⟩
 refine then_n ?_
 refine wp_cond_false (F.e rfl) ?_
 refine wp_seq ?_
 refine wp_region_lit ?_
 refine list_val F (wn rfl) rfl rfl (.bool true) (ex_bin .eql _ _ _ _ rfl .i64 _ _ (F.e rfl) rfl _ (b_eql (by decide))) ?_; clear F a; intro a F
 refine list_val F (wn rfl) rfl rfl (.bool true) (ex_assign _ rfl _ (F.e rfl)) ?_; clear F a; intro a F
 refine wpList_nil ?_
 replace F : Fr 12 a [(0, .int .i64 1), (2, .string (strB ([]))), (3, .int .i64 1), (4, .bool false), (6, .bool true)] := F.keep ⟨rfl, rfl, rfl, rfl, rfl, trivial⟩
 refine then_n ?_
 refine wp_cond_true (F.e rfl) ?_
 refine wp_seq ?_
 refine wp_region_lit ?_
 refine list_val F (wn rfl) rfl rfl (.string (strB kn1)) (ex_assign _ rfl _ rfl) ?_; clear F a; intro a F
 refine wpList_nil ?_
 replace F : Fr 12 a [(0, .int .i64 1), (2, .string (strB kn1)), (3, .int .i64 1), (4, .bool false), (6, .bool true)] := F.keep ⟨rfl, rfl, rfl, rfl, rfl, trivial⟩
 refine then_n ?_
 refine wp_ret ?_
 refine in_r ?_
 refine then_r ?_
 exact ret_tmp F rfl rfl ⟨rfl, M.bel⟩
set_option maxHeartbeats 4000000 in
set_option maxRecDepth 100000 in
theorem known_2 (w : World) : Calls Tryd.prog 39 #[.int .i64 55] w fun e w' => e = .returned (.string (strB kn2)) ∧ Below w.heap.size w w' := by
 refine calls_start Tryd.func39 rfl rfl rfl (fun a F => ?_)
 have M : Mm w w [] := Mm.nil w
 refine wp_seq ?_
 refine wp_region_lit ?_
 refine list_val F (wn rfl) rfl rfl (.string (strB ([]))) (ex_assign _ rfl _ rfl) ?_; clear F a; intro a F
 refine wpList_nil ?_
 replace F : Fr 12 a [(0, .int .i64 55), (2, .string (strB ([])))] := F.keep ⟨rfl, rfl, trivial⟩
 refine then_n ?_
 refine wp_seq ?_
 refine wp_seq ?_
 refine wp_region_lit ?_
 refine list_val F (wn rfl) rfl rfl (.int .i64 55) (ex_move _ rfl _ (F.e rfl)) ?_; clear F a; intro a F
 refine wpList_nil ?_
 replace F : Fr 12 a [(0, .int .i64 55), (2, .string (strB ([]))), (3, .int .i64 55)] := F.keep ⟨rfl, rfl, rfl, trivial⟩
 refine then_n ?_
 refine wp_block ?_
 refine wp_seq ?_
 refine wp_region_lit ?_
 refine list_val F (wn rfl) rfl rfl (.bool false) (ex_bin .eql _ _ _ _ rfl .i64 _ _ (F.e rfl) rfl _ (b_eql (by decide))) ?_; clear F a; intro a F
 refine list_val F (wn rfl) rfl rfl (.bool false) (ex_assign _ rfl _ (F.e rfl)) ?_; clear F a; intro a F
 refine wpList_nil ?_
 replace F : Fr 12 a [(0, .int .i64 55), (2, .string (strB ([]))), (3, .int .i64 55), (4, .bool false)] := F.keep ⟨rfl, rfl, rfl, rfl, trivial⟩
 refine then_n ?_
 refine wp_cond_false (F.e rfl) ?_
 refine wp_seq ?_
 refine wp_region_lit ?_
 refine list_val F (wn rfl) rfl rfl (.bool false) (ex_bin .eql _ _ _ _ rfl .i64 _ _ (F.e rfl) rfl _ (b_eql (by decide))) ?_; clear F a; intro a F
 refine list_val F (wn rfl) rfl rfl (.bool false) (ex_assign _ rfl _ (F.e rfl)) ?_; clear F a; intro a F
 refine wpList_nil ?_
 replace F : Fr 12 a [(0, .int .i64 55), (2, .string (strB ([]))), (3, .int .i64 55), (4, .bool false), (6, .bool false)] := F.keep ⟨rfl, rfl, rfl, rfl, rfl, trivial⟩
 refine then_n ?_
 refine wp_cond_false (F.e rfl) ?_
 refine wp_seq ?_
 refine wp_region_lit ?_
 refine list_val F (wn rfl) rfl rfl (.bool true) (ex_bin .eql _ _ _ _ rfl .i64 _ _ (F.e rfl) rfl _ (b_eql (by decide))) ?_; clear F a; intro a F
 refine list_val F (wn rfl) rfl rfl (.bool true) (ex_assign _ rfl _ (F.e rfl)) ?_; clear F a; intro a F
 refine wpList_nil ?_
 replace F : Fr 12 a [(0, .int .i64 55), (2, .string (strB ([]))), (3, .int .i64 55), (4, .bool false), (6, .bool false), (8, .bool true)] := F.keep ⟨rfl, rfl, rfl, rfl, rfl, rfl, trivial⟩
 refine then_n ?_
 refine wp_cond_true (F.e rfl) ?_
 refine wp_seq ?_
 refine wp_region_lit ?_
 refine list_val F (wn rfl) rfl rfl (.string (strB kn2)) (ex_assign _ rfl _ rfl) ?_; clear F a; intro a F
 refine wpList_nil ?_
 replace F : Fr 12 a [(0, .int .i64 55), (2, .string (strB kn2)), (3, .int .i64 55), (4, .bool false), (6, .bool false), (8, .bool true)] := F.keep ⟨rfl, rfl, rfl, rfl, rfl, rfl, trivial⟩
 refine then_n ?_
 refine wp_ret ?_
 refine in_r ?_
 refine then_r ?_
 exact ret_tmp F rfl rfl ⟨rfl, M.bel⟩
set_option maxHeartbeats 4000000 in
set_option maxRecDepth 100000 in
theorem known_3 (w : World) : Calls Tryd.prog 39 #[.int .i64 56] w fun e w' => e = .returned (.string (strB kn3)) ∧ Below w.heap.size w w' := by
 refine calls_start Tryd.func39 rfl rfl rfl (fun a F => ?_)
 have M : Mm w w [] := Mm.nil w
 refine wp_seq ?_
 refine wp_region_lit ?_
 refine list_val F (wn rfl) rfl rfl (.string (strB ([]))) (ex_assign _ rfl _ rfl) ?_; clear F a; intro a F
 refine wpList_nil ?_
 replace F : Fr 12 a [(0, .int .i64 56), (2, .string (strB ([])))] := F.keep ⟨rfl, rfl, trivial⟩
 refine then_n ?_
 refine wp_seq ?_
 refine wp_seq ?_
 refine wp_region_lit ?_
 refine list_val F (wn rfl) rfl rfl (.int .i64 56) (ex_move _ rfl _ (F.e rfl)) ?_; clear F a; intro a F
 refine wpList_nil ?_
 replace F : Fr 12 a [(0, .int .i64 56), (2, .string (strB ([]))), (3, .int .i64 56)] := F.keep ⟨rfl, rfl, rfl, trivial⟩
 refine then_n ?_
 refine wp_block ?_
 refine wp_seq ?_
 refine wp_region_lit ?_
 refine list_val F (wn rfl) rfl rfl (.bool false) (ex_bin .eql _ _ _ _ rfl .i64 _ _ (F.e rfl) rfl _ (b_eql (by decide))) ?_; clear F a; intro a F
 refine list_val F (wn rfl) rfl rfl (.bool false) (ex_assign _ rfl _ (F.e rfl)) ?_; clear F a; intro a F
 refine wpList_nil ?_
 replace F : Fr 12 a [(0, .int .i64 56), (2, .string (strB ([]))), (3, .int .i64 56), (4, .bool false)] := F.keep ⟨rfl, rfl, rfl, rfl, trivial⟩
 refine then_n ?_
 refine wp_cond_false (F.e rfl) ?_
 refine wp_seq ?_
 refine wp_region_lit ?_
 refine list_val F (wn rfl) rfl rfl (.bool false) (ex_bin .eql _ _ _ _ rfl .i64 _ _ (F.e rfl) rfl _ (b_eql (by decide))) ?_; clear F a; intro a F
 refine list_val F (wn rfl) rfl rfl (.bool false) (ex_assign _ rfl _ (F.e rfl)) ?_; clear F a; intro a F
 refine wpList_nil ?_
 replace F : Fr 12 a [(0, .int .i64 56), (2, .string (strB ([]))), (3, .int .i64 56), (4, .bool false), (6, .bool false)] := F.keep ⟨rfl, rfl, rfl, rfl, rfl, trivial⟩
 refine then_n ?_
 refine wp_cond_false (F.e rfl) ?_
 refine wp_seq ?_
 refine wp_region_lit ?_
 refine list_val F (wn rfl) rfl rfl (.bool false) (ex_bin .eql _ _ _ _ rfl .i64 _ _ (F.e rfl) rfl _ (b_eql (by decide))) ?_; clear F a; intro a F
 refine list_val F (wn rfl) rfl rfl (.bool false) (ex_assign _ rfl _ (F.e rfl)) ?_; clear F a; intro a F
 refine wpList_nil ?_
 replace F : Fr 12 a [(0, .int .i64 56), (2, .string (strB ([]))), (3, .int .i64 56), (4, .bool false), (6, .bool false), (8, .bool false)] := F.keep ⟨rfl, rfl, rfl, rfl, rfl, rfl, trivial⟩
 refine then_n ?_
 refine wp_cond_false (F.e rfl) ?_
 refine wp_seq ?_
 refine wp_region_lit ?_
 refine list_val F (wn rfl) rfl rfl (.bool true) (ex_bin .eql _ _ _ _ rfl .i64 _ _ (F.e rfl) rfl _ (b_eql (by decide))) ?_; clear F a; intro a F
 refine list_val F (wn rfl) rfl rfl (.bool true) (ex_assign _ rfl _ (F.e rfl)) ?_; clear F a; intro a F
 refine wpList_nil ?_
 replace F : Fr 12 a [(0, .int .i64 56), (2, .string (strB ([]))), (3, .int .i64 56), (4, .bool false), (6, .bool false), (8, .bool false), (10, .bool true)] := F.keep ⟨rfl, rfl, rfl, rfl, rfl, rfl, rfl, trivial⟩
 refine then_n ?_
 refine wp_cond_true (F.e rfl) ?_
 refine wp_seq ?_
 refine wp_region_lit ?_
 refine list_val F (wn rfl) rfl rfl (.string (strB kn3)) (ex_assign _ rfl _ rfl) ?_; clear F a; intro a F
 refine wpList_nil ?_
 replace F : Fr 12 a [(0, .int .i64 56), (2, .string (strB kn3)), (3, .int .i64 56), (4, .bool false), (6, .bool false), (8, .bool false), (10, .bool true)] := F.keep ⟨rfl, rfl, rfl, rfl, rfl, rfl, rfl, trivial⟩
 refine then_n ?_
 refine wp_ret ?_
 refine in_r ?_
 refine then_r ?_
 exact ret_tmp F rfl rfl ⟨rfl, M.bel⟩
set_option maxHeartbeats 4000000 in
set_option maxRecDepth 100000 in
theorem known_4 (w : World) : Calls Tryd.prog 39 #[.int .i64 64] w fun e w' => e = .returned (.string (strB kn4)) ∧ Below w.heap.size w w' := by
 refine calls_start Tryd.func39 rfl rfl rfl (fun a F => ?_)
 have M : Mm w w [] := Mm.nil w
 refine wp_seq ?_
 refine wp_region_lit ?_
 refine list_val F (wn rfl) rfl rfl (.string (strB ([]))) (ex_assign _ rfl _ rfl) ?_; clear F a; intro a F
 refine wpList_nil ?_
 replace F : Fr 12 a [(0, .int .i64 64), (2, .string (strB ([])))] := F.keep ⟨rfl, rfl, trivial⟩
 refine then_n ?_
 refine wp_seq ?_
 refine wp_seq ?_
 refine wp_region_lit ?_
 refine list_val F (wn rfl) rfl rfl (.int .i64 64) (ex_move _ rfl _ (F.e rfl)) ?_; clear F a; intro a F
 refine wpList_nil ?_
 replace F : Fr 12 a [(0, .int .i64 64), (2, .string (strB ([]))), (3, .int .i64 64)] := F.keep ⟨rfl, rfl, rfl, trivial⟩
 refine then_n ?_
 refine wp_block ?_
 refine wp_seq ?_
 refine wp_region_lit ?_
 refine list_val F (wn rfl) rfl rfl (.bool false) (ex_bin .eql _ _ _ _ rfl .i64 _ _ (F.e rfl) rfl _ (b_eql (by decide))) ?_; clear F a; intro a F
 refine list_val F (wn rfl) rfl rfl (.bool false) (ex_assign _ rfl _ (F.e rfl)) ?_; clear F a; intro a F
 refine wpList_nil ?_
 replace F : Fr 12 a [(0, .int .i64 64), (2, .string (strB ([]))), (3, .int .i64 64), (4, .bool false)] := F.keep ⟨rfl, rfl, rfl, rfl, trivial⟩
 refine then_n ?_
 refine wp_cond_false (F.e rfl) ?_
 refine wp_seq ?_
 refine wp_region_lit ?_
 refine list_val F (wn rfl) rfl rfl (.bool false) (ex_bin .eql _ _ _ _ rfl .i64 _ _ (F.e rfl) rfl _ (b_eql (by decide))) ?_; clear F a; intro a F
 refine list_val F (wn rfl) rfl rfl (.bool false) (ex_assign _ rfl _ (F.e rfl)) ?_; clear F a; intro a F
 refine wpList_nil ?_
 replace F : Fr 12 a [(0, .int .i64 64), (2, .string (strB ([]))), (3, .int .i64 64), (4, .bool false), (6, .bool false)] := F.keep ⟨rfl, rfl, rfl, rfl, rfl, trivial⟩
 refine then_n ?_
 refine wp_cond_false (F.e rfl) ?_
 refine wp_seq ?_
 refine wp_region_lit ?_
 refine list_val F (wn rfl) rfl rfl (.bool false) (ex_bin .eql _ _ _ _ rfl .i64 _ _ (F.e rfl) rfl _ (b_eql (by decide))) ?_; clear F a; intro a F
 refine list_val F (wn rfl) rfl rfl (.bool false) (ex_assign _ rfl _ (F.e rfl)) ?_; clear F a; intro a F
 refine wpList_nil ?_
 replace F : Fr 12 a [(0, .int .i64 64), (2, .string (strB ([]))), (3, .int .i64 64), (4, .bool false), (6, .bool false), (8, .bool false)] := F.keep ⟨rfl, rfl, rfl, rfl, rfl, rfl, trivial⟩
 refine then_n ?_
 refine wp_cond_false (F.e rfl) ?_
 refine wp_seq ?_
 refine wp_region_lit ?_
 refine list_val F (wn rfl) rfl rfl (.bool false) (ex_bin .eql _ _ _ _ rfl .i64 _ _ (F.e rfl) rfl _ (b_eql (by decide))) ?_; clear F a; intro a F
 refine list_val F (wn rfl) rfl rfl (.bool false) (ex_assign _ rfl _ (F.e rfl)) ?_; clear F a; intro a F
 refine wpList_nil ?_
 replace F : Fr 12 a [(0, .int .i64 64), (2, .string (strB ([]))), (3, .int .i64 64), (4, .bool false), (6, .bool false), (8, .bool false), (10, .bool false)] := F.keep ⟨rfl, rfl, rfl, rfl, rfl, rfl, rfl, trivial⟩
 refine then_n ?_
 refine wp_cond_false (F.e rfl) ?_
 refine wp_skip ?_
 refine in_n ?_
 refine then_n ?_
 refine wp_seq ?_
 refine wp_region_lit ?_
 refine list_val F (wn rfl) rfl rfl (.string (strB kn4)) (ex_assign _ rfl _ rfl) ?_; clear F a; intro a F
 refine wpList_nil ?_
 replace F : Fr 12 a [(0, .int .i64 64), (2, .string (strB kn4)), (3, .int .i64 64), (4, .bool false), (6, .bool false), (8, .bool false), (10, .bool false)] := F.keep ⟨rfl, rfl, rfl, rfl, rfl, rfl, rfl, trivial⟩
 refine then_n ?_
 refine wp_ret ?_
 exact ret_tmp F rfl rfl ⟨rfl, M.bel⟩
theorem known_any (i : Nat) (hi : i < 5) (w : World) : Calls Tryd.prog 39 #[.int .i64 ((szs.getD i 0 : Nat) : Int)] w fun e w' => e = .returned (.string (strB (kn i))) ∧ Below w.heap.size w w' := by
  match i, hi with
  | 0, _ => exact known_0 w
  | 1, _ => exact known_1 w
  | 2, _ => exact known_2 w
  | 3, _ => exact known_3 w
  | 4, _ => exact known_4 w
theorem ea_ent_31 : ent? Tryd.prog 31 = true := by kernel_rfl
theorem ea_ar_70_5 : ar? Tryd.prog 70 5 = true := by kernel_rfl
theorem ea_one_3 : one? Tryd.prog 3 = true := by kernel_rfl
theorem ea_ent_33 : ent? Tryd.prog 33 = true := by kernel_rfl
theorem ea_ent_15 : ent? Tryd.prog 15 = true := by kernel_rfl
theorem ea_ent_38 : ent? Tryd.prog 38 = true := by kernel_rfl
theorem ea_ent_39 : ent? Tryd.prog 39 = true := by kernel_rfl
theorem ea_ent_35 : ent? Tryd.prog 35 = true := by kernel_rfl
theorem ea_cv_3_62_u64 : cv? Tryd.prog 3 62 .u64 = true := by kernel_rfl
theorem ea_ent_36 : ent? Tryd.prog 36 = true := by kernel_rfl
theorem ea_ent_21 : ent? Tryd.prog 21 = true := by kernel_rfl
theorem ea_ent_19 : ent? Tryd.prog 19 = true := by kernel_rfl
set_option maxHeartbeats 4000000 in
set_option maxRecDepth 100000 in
theorem dknown_any (w : World) (hKt : At w ⟨0, 0, none⟩ (wcs kTab)) : Calls Tryd.prog 12 #[] w fun e w' => e = .returned (.bool true) ∧ Below w.heap.size w w' := by
 have R_ : Rs w w [] := Rs.nil w w
 have h0 := kt_pos hKt
 refine calls_start Tryd.func12 rfl rfl rfl (fun a F => ?_)
 have M : Mm w w [] := Mm.nil w
 refine wp_seq ?_
 refine wp_region_lit ?_
 refine list_val F (wn rfl) rfl rfl (.bool false) (ex_assign _ rfl _ rfl) ?_; clear F a; intro a F
 refine wpList_nil ?_
 replace F : Fr 65 a [(0, .bool false)] := F.keep ⟨rfl, trivial⟩
 refine then_n ?_
 refine wp_seq ?_
 refine wp_region_lit ?_
 refine list_val F (wn rfl) rfl rfl (.agg ((ncs szs).toArray)) (ex_build 70 _ rfl #[(0, .int .i64 0), (1, .int .i64 1), (2, .int .i64 55), (3, .int .i64 56), (4, .int .i64 64)] (by simp [Act.eval]) (.agg ((ncs szs).toArray)) (build70 _)) ?_; clear F a; intro a F
 refine list_do (wn rfl) (fun K hK => ?_)
 refine ow_alloc F M rfl rfl 70 rfl (.agg (ncs [0, 0, 0, 0, 0]).toArray) z70 ((ncs ([0, 0, 0, 0, 0])).toArray) rfl ?_
 clear F M a; intro a g1 v F M hb hg
 refine hK _ _ ?_
 clear hK K
 replace R_ := R_.below hb
 clear hb hg; try clear w
 refine list_do (wn rfl) (fun K hK => ?_)
 refine ow_put F M rfl 70 _ _ rfl 0 _ ((ncs ([0, 0, 0, 0, 0])).toArray) _ rfl (F.e rfl) ((ncs szs).toArray) (F.e rfl) (by kernel_rfl) rfl (by kernel_rfl) ?_
 clear F a; have Mo := M; clear M; intro a u F M hgr
 refine hK _ _ ?_
 clear hK K
 replace R_ := R_.box (Mo.blk 0 _ rfl) (by show 5 ≠ 70; decide) hgr
 clear Mo hgr; try clear v
 replace M : Mm w u [⟨g1, (ncs szs).toArray, 70⟩] := M
 refine wpList_nil ?_
 replace F : Fr 65 a [(0, .bool false), (1, .pointer (some ⟨g1, 0, none⟩))] := F.keep ⟨rfl, rfl, trivial⟩
 refine then_n ?_
 refine wp_seq ?_
 refine wp_seq ?_
 refine wp_region_lit ?_
 refine list_val F (wn rfl) rfl rfl (.int .i64 0) (ex_assign _ rfl _ rfl) ?_; clear F a; intro a F
 refine wpList_nil ?_
 replace F : Fr 65 a [(0, .bool false), (1, .pointer (some ⟨g1, 0, none⟩)), (2, .int .i64 0)] := F.keep ⟨rfl, rfl, rfl, trivial⟩
 refine then_n ?_
 refine wp_block ?_
 refine wp_loopN (fun mq ar wr => ∃ (i : Nat), Fr 65 ar [(0, .bool false), (1, .pointer (some ⟨g1, 0, none⟩)), (2, .int .i64 ((i : Nat) : Int))] ∧ Mm w wr [⟨g1, (ncs szs).toArray, 70⟩] ∧ Rs w wr [] ∧ i ≤ 5 ∧ mq + i = 5) 5 ?_ ?_
 ·
  exact ⟨0, F.keep ⟨rfl, rfl, rfl, trivial⟩, (by refine M.pick' [0] _ ?_ (by decide); exact ⟨rfl, trivial⟩), R_, (Nat.zero_le _), (by omega)⟩
 clear F M a R_
 rintro mq a v ⟨i, F, M, R_, hi, hq⟩; try clear u
 by_cases hin : i < 5
 ·
  have hsz := sz_le i hin
  refine wp_seq ?_
  refine wp_seq ?_
  refine wp_region_lit ?_
  refine list_val F (wn rfl) rfl rfl (.int .i64 ((i : Nat) : Int)) (ex_move _ rfl _ (F.e rfl)) ?_; clear F a; intro a F
  refine list_val F (wn rfl) rfl rfl (.bool true) (ex_bin .lss _ _ _ _ rfl .i64 _ _ (F.e rfl) rfl _ (b_lss (decide_eq_true (by omega)))) ?_; clear F a; intro a F
  refine wpList_nil ?_
  replace F : Fr 65 a [(0, .bool false), (1, .pointer (some ⟨g1, 0, none⟩)), (2, .int .i64 ((i : Nat) : Int)), (9, .bool true)] := F.keep ⟨rfl, rfl, rfl, rfl, trivial⟩
  refine then_n ?_
  refine wp_cond_true (F.e rfl) ?_
  refine wp_skip ?_
  refine then_n ?_
  refine wp_seq ?_
  refine wp_block ?_
  refine wp_seq ?_
  refine wp_region_lit ?_
  refine list_do (wn rfl) (fun K hK => ?_)
  refine ow_call rfl rfl F 31 #[] (ex_call 31 _ _ rfl rfl ea_ent_31 _ (map0)) (new_all _) (fun e u hR => ?_)
  obtain ⟨g12, he, hg, hn, hb⟩ := hR
  have M1 := M.new ⟨g12, (hcs ((feed hIni []).1) (.slice none ((feed hIni []).2.length) 0) (((BitVec.ofNat 64 0).toNat : Int))).toArray, 82⟩ hb hg hn
  have R1 := (R_.below hb).addnew
  refine ⟨.pointer (some ⟨g12, 0, none⟩), he, ?_⟩; clear he F a; intro a F
  refine hK _ _ ?_
  clear hK K
  replace R_ := R_.below hb
  replace M := M.below hb; clear hb; try clear v
  replace M := M1; replace R_ := R1; clear M1 R1 hg hn
  refine list_val F (wn rfl) rfl rfl (.pointer (some ⟨g12, 0, none⟩)) (ex_assign _ rfl _ (F.e rfl)) ?_; clear F a; intro a F
  refine wpList_nil ?_
  replace F : Fr 65 a [(0, .bool false), (1, .pointer (some ⟨g1, 0, none⟩)), (2, .int .i64 ((i : Nat) : Int)), (3, .pointer (some ⟨g12, 0, none⟩)), (9, .bool true)] := F.keep ⟨rfl, rfl, rfl, rfl, rfl, trivial⟩
  refine then_n ?_
  refine wp_seq ?_
  refine wp_seq ?_
  refine wp_region_lit ?_
  refine list_val F (wn rfl) rfl rfl (.pointer (some ⟨g12, 0, none⟩)) (ex_move _ rfl _ (F.e rfl)) ?_; clear F a; intro a F
  refine list_val F (wn rfl) rfl rfl (.bool false) (ex_pnil _ _ _ rfl ⟨g12, 0, none⟩ (F.e rfl) rfl) ?_; clear F a; intro a F
  refine wpList_nil ?_
  replace F : Fr 65 a [(0, .bool false), (1, .pointer (some ⟨g1, 0, none⟩)), (2, .int .i64 ((i : Nat) : Int)), (3, .pointer (some ⟨g12, 0, none⟩)), (9, .bool true), (14, .bool false)] := F.keep ⟨rfl, rfl, rfl, rfl, rfl, rfl, trivial⟩
  refine then_n ?_
  refine wp_cond_false (F.e rfl) ?_
  refine wp_skip ?_
  refine then_n ?_
  refine wp_seq ?_
  refine wp_region_lit ?_
  refine list_val F (wn rfl) rfl rfl (.slice none 0 0) (ex_assign _ rfl _ rfl) ?_; clear F a; intro a F
  refine wpList_nil ?_
  replace F : Fr 65 a [(0, .bool false), (1, .pointer (some ⟨g1, 0, none⟩)), (2, .int .i64 ((i : Nat) : Int)), (3, .pointer (some ⟨g12, 0, none⟩)), (4, .slice none 0 0), (9, .bool true), (14, .bool false)] := F.keep ⟨rfl, rfl, rfl, rfl, rfl, rfl, rfl, trivial⟩
  refine then_n ?_
  refine wp_seq ?_
  refine wp_seq ?_
  refine wp_region_lit ?_
  refine list_val F (wn rfl) rfl rfl (.int .i64 0) (ex_assign _ rfl _ rfl) ?_; clear F a; intro a F
  refine wpList_nil ?_
  replace F : Fr 65 a [(0, .bool false), (1, .pointer (some ⟨g1, 0, none⟩)), (2, .int .i64 ((i : Nat) : Int)), (3, .pointer (some ⟨g12, 0, none⟩)), (4, .slice none 0 0), (5, .int .i64 0), (9, .bool true), (14, .bool false)] := F.keep ⟨rfl, rfl, rfl, rfl, rfl, rfl, rfl, rfl, trivial⟩
  refine then_n ?_
  refine wp_block ?_
  refine wp_loopN (fun mq ar wr => ∃ (k : Nat), ∃ (A2 : Option Addr), ∃ (k2 : Nat), ∃ (A4 : Option Addr), ∃ (c4 : Nat), Fr 65 ar [(0, .bool false), (1, .pointer (some ⟨g1, 0, none⟩)), (2, .int .i64 ((i : Nat) : Int)), (3, .pointer (some ⟨g12, 0, none⟩)), (4, .slice A4 ((rp k).length) c4), (5, .int .i64 ((k : Nat) : Int)), (9, .bool true), (14, .bool false)] ∧ Mm w wr [⟨g12, (hcs ((feed hIni (rp k)).1) (.slice A2 ((feed hIni (rp k)).2.length) k2) (((BitVec.ofNat 64 (rp k).length).toNat : Int))).toArray, 82⟩, ⟨g1, (ncs szs).toArray, 70⟩] ∧ Rs w wr [(.slice A4 ((rp k).length) c4, (rp k)), (.slice A2 ((feed hIni (rp k)).2.length) k2, (feed hIni (rp k)).2)] ∧ k ≤ szs.getD i 0 ∧ mq + k = (szs.getD i 0)) (szs.getD i 0) ?_ ?_
  ·
   exact ⟨0, none, 0, none, 0, F.keep ⟨rfl, rfl, rfl, rfl, rfl, rfl, rfl, rfl, trivial⟩, (by refine M.pick' [0, 1] _ ?_ (by decide); exact ⟨rfl, rfl, trivial⟩), R_.addnil, (Nat.zero_le _), (by omega)⟩
  clear F M a R_
  rintro mq a v ⟨k, A2, k2, A4, c4, F, M, R_, hk, hq⟩; try clear u
  have hlk : (rp k).length = k := rp_len k
  by_cases hkk : k < szs.getD i 0
  ·
   refine wp_seq ?_
   refine wp_seq ?_
   refine wp_region_lit ?_
   refine list_val F (wn rfl) rfl rfl (.int .i64 ((k : Nat) : Int)) (ex_move _ rfl _ (F.e rfl)) ?_; clear F a; intro a F
   refine list_val F (wn rfl) rfl rfl (.int .i64 ((i : Nat) : Int)) (ex_move _ rfl _ (F.e rfl)) ?_; clear F a; intro a F
   refine list_val F (wn rfl) rfl rfl (.pointer (some ⟨g1, i, none⟩)) (ex_ixa _ _ _ rfl 5 ea_ar_70_5 ⟨g1, 0, none⟩ (F.e rfl) .i64 _ (F.e rfl) i rfl (by omega) ⟨g1, i, none⟩ ((addr_add _ _ _).trans (by rw [Nat.zero_add]))) ?_; clear F a; intro a F
   refine list_val F (wn rfl) rfl rfl (.int .i64 ((szs.getD i 0 : Nat) : Int)) (ex_load _ _ rfl _ (F.e rfl) _ (lv1 ea_one_3 (M.cell (i := 1) rfl (j := i) (ncs_arr (by show _ < 5; omega))))) ?_; clear F a; intro a F
   refine list_val F (wn rfl) rfl rfl (.bool true) (ex_bin .lss _ _ _ _ rfl .i64 _ _ (F.e rfl) (F.e rfl) _ (b_lss (decide_eq_true (by omega)))) ?_; clear F a; intro a F
   refine wpList_nil ?_
   replace F : Fr 65 a [(0, .bool false), (1, .pointer (some ⟨g1, 0, none⟩)), (2, .int .i64 ((i : Nat) : Int)), (3, .pointer (some ⟨g12, 0, none⟩)), (4, .slice A4 ((rp k).length) c4), (5, .int .i64 ((k : Nat) : Int)), (9, .bool true), (14, .bool false), (19, .bool true)] := F.keep ⟨rfl, rfl, rfl, rfl, rfl, rfl, rfl, rfl, rfl, trivial⟩
   refine then_n ?_
   refine wp_cond_true (F.e rfl) ?_
   refine wp_skip ?_
   refine then_n ?_
   refine wp_seq ?_
   refine wp_block ?_
   refine wp_seq ?_
   refine wp_region_lit ?_
   refine list_val F (wn rfl) rfl rfl (.slice A4 ((rp k).length) c4) (ex_move _ rfl _ (F.e rfl)) ?_; clear F a; intro a F
   refine list_do (wn rfl) (fun K hK => ?_)
   refine ow_lit F M R_ rfl rfl 1 _ rfl #[(0, .int .u8 97)] (parts1 rfl) [97] rfl rfl (by kernel_rfl) ?_
   clear F M R_; intro a g23 u F M R_ hb
   refine hK _ _ ?_
   clear hK K
   clear hb; try clear v
   refine list_do (wn rfl) (fun K hK => ?_)
   refine ow_appR F M R_ rfl rfl rfl rfl _ _ rfl 1 A4 ((rp k).length) c4 (rp k) ([97]) (rp (k + 1)) rfl (rp_app k) (some ⟨g23, 0, none⟩) 1 1 (F.e rfl) (F.e rfl) (R_.rb (i := 0) rfl) (by omega) ?_
   clear F M R_; intro a A_24 c_24 v F M R_
   refine hK _ _ ?_
   clear hK K
   try clear u
   refine list_val F (wn rfl) rfl rfl (.slice A_24 ((rp (k + 1)).length) c_24) (ex_assign _ rfl _ (F.e rfl)) ?_; clear F a; intro a F
   refine wpList_nil ?_
   replace F : Fr 65 a [(0, .bool false), (1, .pointer (some ⟨g1, 0, none⟩)), (2, .int .i64 ((i : Nat) : Int)), (3, .pointer (some ⟨g12, 0, none⟩)), (4, .slice A_24 ((rp (k + 1)).length) c_24), (5, .int .i64 ((k : Nat) : Int)), (9, .bool true), (14, .bool false), (19, .bool true)] := F.keep ⟨rfl, rfl, rfl, rfl, rfl, rfl, rfl, rfl, rfl, trivial⟩
   refine then_n ?_
   refine wp_region_lit ?_
   refine list_val F (wn rfl) rfl rfl (.pointer (some ⟨g12, 0, none⟩)) (ex_move _ rfl _ (F.e rfl)) ?_; clear F a; intro a F
   refine list_do (wn rfl) (fun K hK => ?_)
   refine ow_lit F M R_ rfl rfl 1 _ rfl #[(0, .int .u8 97)] (parts1 rfl) [97] rfl rfl (by kernel_rfl) ?_
   clear F M R_; intro a g26 u F M R_ hb
   refine hK _ _ ?_
   clear hK K
   clear hb; try clear v
   refine list_do (wn rfl) (fun K hK => ?_)
   have hL : RbA u (some ⟨g26, 0, none⟩) 1 1 ([97]) g12 (.slice A2 ((feed hIni (rp k)).2.length) k2) := (R_.rba (i := 3) (j := 0) rfl (R_.rb (i := 0) rfl) (R_.cap (i := 0) rfl) rfl (by decide) (M.blk 0 _ rfl))
   refine ow_call rfl rfl F 33 #[.pointer (some ⟨g12, 0, none⟩), .slice (some ⟨g26, 0, none⟩) 1 1] (ex_call 33 _ _ rfl rfl ea_ent_33 _ (map2 (F.e rfl) (F.e rfl))) (write_to (rp k) (rp (k + 1)) A2 k2 (BitVec.ofNat 64 (rp k).length) (BitVec.ofNat 64 (rp (k + 1)).length) ([97]) (some ⟨g26, 0, none⟩) 1 1 g12 w.heap.size _ (hKt.below M.bel) h0 M.bel.size (M.lo 0 _ rfl) (M.blk 0 _ rfl) (R_.own 3 _ _ rfl) hL (rp_app k) (num_app hL.1.1 (rp_app k))) (fun e v hR => ?_)
   obtain ⟨he, A_27, k_27, hn, O_n, hC⟩ := hR
   refine ⟨.tuple #[], he, ?_⟩; clear he F a; intro a F
   refine hK _ _ ?_
   clear hK K
   have M1 := M.chg (i := 0) rfl (R_.own 3 _ _ rfl) rfl hC ((hcs ((feed hIni (rp (k + 1))).1) (.slice A_27 ((feed hIni (rp (k + 1))).2.length) k_27) (((BitVec.ofNat 64 (rp (k + 1)).length).toNat : Int))).toArray) hn
   have R1 := R_.take (i := 3) rfl (M.blk 0 _ rfl) hC O_n
   replace M := M1; replace R_ := R1; clear M1 R1 hC hn O_n hL
   replace M : Mm w v [⟨g12, (hcs ((feed hIni (rp (k + 1))).1) (.slice A_27 ((feed hIni (rp (k + 1))).2.length) k_27) (((BitVec.ofNat 64 (rp (k + 1)).length).toNat : Int))).toArray, 82⟩, ⟨g1, (ncs szs).toArray, 70⟩] := M; try clear u
   refine wpList_nil ?_
   replace F : Fr 65 a [(0, .bool false), (1, .pointer (some ⟨g1, 0, none⟩)), (2, .int .i64 ((i : Nat) : Int)), (3, .pointer (some ⟨g12, 0, none⟩)), (4, .slice A_24 ((rp (k + 1)).length) c_24), (5, .int .i64 ((k : Nat) : Int)), (9, .bool true), (14, .bool false), (19, .bool true)] := F.keep ⟨rfl, rfl, rfl, rfl, rfl, rfl, rfl, rfl, rfl, trivial⟩
   refine in_n ?_
   refine then_n ?_
   refine wp_region_lit ?_
   refine list_val F (wn rfl) rfl rfl (.int .i64 ((k : Nat) : Int)) (ex_move _ rfl _ (F.e rfl)) ?_; clear F a; intro a F
   refine list_val F (wn rfl) rfl rfl (.int .i64 ((k + 1 : Nat) : Int)) (ex_bin .add _ _ _ _ rfl .i64 _ _ (F.e rfl) rfl _ (b_add ((w_i64 (by omega) (by omega)).trans (by omega)))) ?_; clear F a; intro a F
   refine list_val F (wn rfl) rfl rfl (.int .i64 ((k + 1 : Nat) : Int)) (ex_assign _ rfl _ (F.e rfl)) ?_; clear F a; intro a F
   refine wpList_nil ?_
   replace F : Fr 65 a [(0, .bool false), (1, .pointer (some ⟨g1, 0, none⟩)), (2, .int .i64 ((i : Nat) : Int)), (3, .pointer (some ⟨g12, 0, none⟩)), (4, .slice A_24 ((rp (k + 1)).length) c_24), (5, .int .i64 ((k + 1 : Nat) : Int)), (9, .bool true), (14, .bool false), (19, .bool true)] := F.keep ⟨rfl, rfl, rfl, rfl, rfl, rfl, rfl, rfl, rfl, trivial⟩
   refine then_n ?_
   replace R_ := R_.pick [2, 3] [_, _] ⟨rfl, rfl, trivial⟩ (by decide)
   exact ⟨(szs.getD i 0) - (k + 1), by omega, (k + 1), A_27, k_27, A_24, c_24, F.keep ⟨rfl, rfl, rfl, rfl, rfl, rfl, rfl, rfl, trivial⟩, (by refine M.pick' [0, 1] _ ?_ (by decide); exact ⟨rfl, rfl, trivial⟩), R_, (by omega), (by omega)⟩
  have hkm : k = szs.getD i 0 := by omega
  refine wp_seq ?_
  refine wp_seq ?_
  refine wp_region_lit ?_
  refine list_val F (wn rfl) rfl rfl (.int .i64 ((k : Nat) : Int)) (ex_move _ rfl _ (F.e rfl)) ?_; clear F a; intro a F
  refine list_val F (wn rfl) rfl rfl (.int .i64 ((i : Nat) : Int)) (ex_move _ rfl _ (F.e rfl)) ?_; clear F a; intro a F
  refine list_val F (wn rfl) rfl rfl (.pointer (some ⟨g1, i, none⟩)) (ex_ixa _ _ _ rfl 5 ea_ar_70_5 ⟨g1, 0, none⟩ (F.e rfl) .i64 _ (F.e rfl) i rfl (by omega) ⟨g1, i, none⟩ ((addr_add _ _ _).trans (by rw [Nat.zero_add]))) ?_; clear F a; intro a F
  refine list_val F (wn rfl) rfl rfl (.int .i64 ((szs.getD i 0 : Nat) : Int)) (ex_load _ _ rfl _ (F.e rfl) _ (lv1 ea_one_3 (M.cell (i := 1) rfl (j := i) (ncs_arr (by show _ < 5; omega))))) ?_; clear F a; intro a F
  refine list_val F (wn rfl) rfl rfl (.bool false) (ex_bin .lss _ _ _ _ rfl .i64 _ _ (F.e rfl) (F.e rfl) _ (b_lss (decide_eq_false (by omega)))) ?_; clear F a; intro a F
  refine wpList_nil ?_
  replace F : Fr 65 a [(0, .bool false), (1, .pointer (some ⟨g1, 0, none⟩)), (2, .int .i64 ((i : Nat) : Int)), (3, .pointer (some ⟨g12, 0, none⟩)), (4, .slice A4 ((rp k).length) c4), (5, .int .i64 ((k : Nat) : Int)), (9, .bool true), (14, .bool false), (19, .bool false)] := F.keep ⟨rfl, rfl, rfl, rfl, rfl, rfl, rfl, rfl, rfl, trivial⟩
  refine then_n ?_
  refine wp_cond_false (F.e rfl) ?_
  refine wp_exit ?_
  refine then_x ?_
  refine then_x ?_
  refine in_hit ?_
  refine then_n ?_
  refine wp_seq ?_
  refine wp_only (fun ar wr => Fr 65 ar [(0, .bool false), (1, .pointer (some ⟨g1, 0, none⟩)), (2, .int .i64 ((i : Nat) : Int)), (3, .pointer (some ⟨g12, 0, none⟩)), (4, .slice A4 ((rp k).length) c4), (5, .int .i64 ((k : Nat) : Int)), (9, .bool true), (14, .bool false), (19, .bool false), (54, .bool false)] ∧ Mm w wr [⟨g12, (hcs ((feed hIni (rp k)).1) (.slice A2 ((feed hIni (rp k)).2.length) k2) (((BitVec.ofNat 64 (rp k).length).toNat : Int))).toArray, 82⟩, ⟨g1, (ncs szs).toArray, 70⟩] ∧ Rs w wr [(.slice A4 ((rp k).length) c4, (rp k)), (.slice A2 ((feed hIni (rp k)).2.length) k2, (feed hIni (rp k)).2)]) ?_ ?_
  ·
   refine region_anyM ea_follows_mixedOrders M [⟨g1, (ncs szs).toArray, 70⟩] (fun w' M => (by refine M.pick' [1] _ ?_ (by decide); exact ⟨rfl, trivial⟩)) ?_; clear M; intro wD M hb
   replace R_ := R_.below hb
   clear hb; try clear v
   have hS : Mm w wD [⟨g1, (ncs szs).toArray, 70⟩] := (by refine M.pick' [1] _ ?_ (by decide); exact ⟨rfl, trivial⟩)
   refine any_val F 0 rfl (by kernel_rfl) (wn rfl) rfl rfl (.slice A4 ((rp k).length) c4) (fun w' hS' => ex_move _ rfl _ (F.e rfl)) hS ?_; clear F a; intro a F
   refine any_val F 3 rfl (by kernel_rfl) (wn rfl) rfl rfl (.int .i64 ((i : Nat) : Int)) (fun w' hS' => ex_move _ rfl _ (F.e rfl)) hS ?_; clear F a; intro a F
   refine any_val F 4 rfl (by kernel_rfl) (wn rfl) rfl rfl (.pointer (some ⟨g1, i, none⟩)) (fun w' hS' => ex_ixa _ _ _ rfl 5 ea_ar_70_5 ⟨g1, 0, none⟩ (F.e rfl) .i64 _ (F.e rfl) i rfl (by omega) ⟨g1, i, none⟩ ((addr_add _ _ _).trans (by rw [Nat.zero_add]))) hS ?_; clear F a; intro a F
   refine any_val F 5 rfl (by kernel_rfl) (wn rfl) rfl rfl (.int .i64 ((szs.getD i 0 : Nat) : Int)) (fun w' hS' => ex_load _ _ rfl _ (F.e rfl) _ (lv1 ea_one_3 (hS'.cell (i := 0) rfl (j := i) (ncs_arr (by show _ < 5; omega))))) hS ?_; clear F a; intro a F
   refine any_ready [1] (by kernel_rfl) (by simp) ?_
   refine ready_do rfl (wn rfl) (fun K hK => ?_) AllReadyH.nil
   refine ow_call rfl rfl F 15 #[.slice A4 ((rp k).length) c4] (ex_call 15 _ _ rfl rfl ea_ent_15 _ (map1 (F.e rfl))) (sum_bytes (rp k) _ (rp k).length c4 _ (hKt.below M.bel) (R_.rb (i := 0) rfl) (R_.cap (i := 0) rfl)) (fun e v hR => ?_)
   obtain ⟨he, hb⟩ := hR
   refine ⟨.agg ((bcs (sha (rp k))).toArray), he, ?_⟩; clear he F a; intro a F
   replace hS : Mm w v [⟨g1, (ncs szs).toArray, 70⟩] := (by refine (M.below hb).pick' [1] _ ?_ (by decide); exact ⟨rfl, trivial⟩)
   refine hK _ _ hS ?_
   clear hK K
   replace R_ := R_.below hb
   replace M := M.below hb; clear hb; try clear wD
   refine any_ready [2] (by kernel_rfl) (by simp) ?_
   refine ready_do rfl (wn rfl) (fun K hK => ?_) AllReadyH.nil
   refine ow_call rfl rfl F 38 #[.agg ((bcs (sha (rp k))).toArray)] (ex_call 38 _ _ rfl rfl ea_ent_38 _ (map1 (F.e rfl))) (hexed_any (sha (rp k)) (sha_len _) _) (fun e u hR => ?_)
   obtain ⟨he, hb⟩ := hR
   refine ⟨.string (strB (hexB (sha (rp k)))), he, ?_⟩; clear he F a; intro a F
   replace hS : Mm w u [⟨g1, (ncs szs).toArray, 70⟩] := (by refine (M.below hb).pick' [1] _ ?_ (by decide); exact ⟨rfl, trivial⟩)
   refine hK _ _ hS ?_
   clear hK K
   replace R_ := R_.below hb
   replace M := M.below hb; clear hb; try clear v
   refine any_ready [6] (by kernel_rfl) (by simp) ?_
   refine ready_do rfl (wn rfl) (fun K hK => ?_) AllReadyH.nil
   refine ow_call rfl rfl F 39 #[.int .i64 ((szs.getD i 0 : Nat) : Int)] (ex_call 39 _ _ rfl rfl ea_ent_39 _ (map1 (F.e rfl))) (known_any i hin _) (fun e v hR => ?_)
   obtain ⟨he, hb⟩ := hR
   refine ⟨.string (strB (kn i)), he, ?_⟩; clear he F a; intro a F
   replace hS : Mm w v [⟨g1, (ncs szs).toArray, 70⟩] := (by refine (M.below hb).pick' [1] _ ?_ (by decide); exact ⟨rfl, trivial⟩)
   refine hK _ _ hS ?_
   clear hK K
   replace R_ := R_.below hb
   replace M := M.below hb; clear hb; try clear u
   refine any_val F 7 rfl (by kernel_rfl) (wn rfl) rfl rfl (.bool false) (fun w' hS' => ex_neqs _ _ _ rfl (hexB (sha (rp k))) (kn i) (F.e rfl) (F.e rfl) false (by rw [hkm, decide_eq_true (kn_rp i hin)]; rfl)) hS ?_; clear F a; intro a F
   refine any_val F 8 rfl (by kernel_rfl) (wn rfl) rfl rfl (.bool false) (fun w' hS' => ex_move _ rfl _ (F.e rfl)) hS ?_; clear F a; intro a F
   refine any_val F 9 rfl (by kernel_rfl) (F.wants 36 false rfl (by kernel_rfl) rfl true rfl) rfl rfl (.pointer (some ⟨g12, 0, none⟩)) (fun w' hS' => ex_move _ rfl _ (F.e rfl)) hS ?_; clear F a; intro a F
   refine any_val F 12 rfl (by kernel_rfl) (F.wants 36 false rfl (by kernel_rfl) rfl true rfl) rfl rfl (.int .i64 ((i : Nat) : Int)) (fun w' hS' => ex_move _ rfl _ (F.e rfl)) hS ?_; clear F a; intro a F
   refine any_val F 13 rfl (by kernel_rfl) (F.wants 36 false rfl (by kernel_rfl) rfl true rfl) rfl rfl (.pointer (some ⟨g1, i, none⟩)) (fun w' hS' => ex_ixa _ _ _ rfl 5 ea_ar_70_5 ⟨g1, 0, none⟩ (F.e rfl) .i64 _ (F.e rfl) i rfl (by omega) ⟨g1, i, none⟩ ((addr_add _ _ _).trans (by rw [Nat.zero_add]))) hS ?_; clear F a; intro a F
   refine any_val F 14 rfl (by kernel_rfl) (F.wants 36 false rfl (by kernel_rfl) rfl true rfl) rfl rfl (.int .i64 ((szs.getD i 0 : Nat) : Int)) (fun w' hS' => ex_load _ _ rfl _ (F.e rfl) _ (lv1 ea_one_3 (hS'.cell (i := 0) rfl (j := i) (ncs_arr (by show _ < 5; omega))))) hS ?_; clear F a; intro a F
   refine any_ready [10] (by kernel_rfl) (by simp) ?_
   refine ready_do rfl (F.wants 36 false rfl (by kernel_rfl) rfl true rfl) (fun K hK => ?_) AllReadyH.nil
   refine ow_call rfl rfl F 35 #[.pointer (some ⟨g12, 0, none⟩)] (ex_call 35 _ _ rfl rfl ea_ent_35 _ (map1 (F.e rfl))) (sum_any (rp k) A2 _ k2 ⟨g12, 0, none⟩ _ (hKt.below M.bel) (M.at (i := 0) rfl) (R_.rb (i := 1) rfl)) (fun e u hR => ?_)
   obtain ⟨he, hb⟩ := hR
   refine ⟨.agg ((bcs (sha (rp k))).toArray), he, ?_⟩; clear he F a; intro a F
   replace hS : Mm w u [⟨g1, (ncs szs).toArray, 70⟩] := (by refine (M.below hb).pick' [1] _ ?_ (by decide); exact ⟨rfl, trivial⟩)
   refine hK _ _ hS ?_
   clear hK K
   replace R_ := R_.below hb
   replace M := M.below hb; clear hb; try clear v
   refine any_ready [11] (by kernel_rfl) (by simp) ?_
   refine ready_do rfl (F.wants 36 false rfl (by kernel_rfl) rfl true rfl) (fun K hK => ?_) AllReadyH.nil
   refine ow_call rfl rfl F 38 #[.agg ((bcs (sha (rp k))).toArray)] (ex_call 38 _ _ rfl rfl ea_ent_38 _ (map1 (F.e rfl))) (hexed_any (sha (rp k)) (sha_len _) _) (fun e v hR => ?_)
   obtain ⟨he, hb⟩ := hR
   refine ⟨.string (strB (hexB (sha (rp k)))), he, ?_⟩; clear he F a; intro a F
   replace hS : Mm w v [⟨g1, (ncs szs).toArray, 70⟩] := (by refine (M.below hb).pick' [1] _ ?_ (by decide); exact ⟨rfl, trivial⟩)
   refine hK _ _ hS ?_
   clear hK K
   replace R_ := R_.below hb
   replace M := M.below hb; clear hb; try clear u
   refine any_ready [15] (by kernel_rfl) (by simp) ?_
   refine ready_do rfl (F.wants 36 false rfl (by kernel_rfl) rfl true rfl) (fun K hK => ?_) AllReadyH.nil
   refine ow_call rfl rfl F 39 #[.int .i64 ((szs.getD i 0 : Nat) : Int)] (ex_call 39 _ _ rfl rfl ea_ent_39 _ (map1 (F.e rfl))) (known_any i hin _) (fun e u hR => ?_)
   obtain ⟨he, hb⟩ := hR
   refine ⟨.string (strB (kn i)), he, ?_⟩; clear he F a; intro a F
   replace hS : Mm w u [⟨g1, (ncs szs).toArray, 70⟩] := (by refine (M.below hb).pick' [1] _ ?_ (by decide); exact ⟨rfl, trivial⟩)
   refine hK _ _ hS ?_
   clear hK K
   replace R_ := R_.below hb
   replace M := M.below hb; clear hb; try clear v
   refine any_val F 16 rfl (by kernel_rfl) (F.wants 36 false rfl (by kernel_rfl) rfl true rfl) rfl rfl (.bool false) (fun w' hS' => ex_neqs _ _ _ rfl (hexB (sha (rp k))) (kn i) (F.e rfl) (F.e rfl) false (by rw [hkm, decide_eq_true (kn_rp i hin)]; rfl)) hS ?_; clear F a; intro a F
   refine any_val F 17 rfl (by kernel_rfl) (wn rfl) rfl rfl (.bool false) (fun w' hS' => ex_pick_f _ _ _ rfl (F.e rfl) _ (F.e rfl)) hS ?_; clear F a; intro a F
   refine any_val F 18 rfl (by kernel_rfl) (wn rfl) rfl rfl (.bool false) (fun w' hS' => ex_move _ rfl _ (F.e rfl)) hS ?_; clear F a; intro a F
   refine any_val F 19 rfl (by kernel_rfl) (F.wants 46 false rfl (by kernel_rfl) rfl true rfl) rfl rfl (.pointer (some ⟨g12, 0, none⟩)) (fun w' hS' => ex_move _ rfl _ (F.e rfl)) hS ?_; clear F a; intro a F
   refine any_val F 21 rfl (by kernel_rfl) (F.wants 46 false rfl (by kernel_rfl) rfl true rfl) rfl rfl (.int .i64 ((i : Nat) : Int)) (fun w' hS' => ex_move _ rfl _ (F.e rfl)) hS ?_; clear F a; intro a F
   refine any_val F 22 rfl (by kernel_rfl) (F.wants 46 false rfl (by kernel_rfl) rfl true rfl) rfl rfl (.pointer (some ⟨g1, i, none⟩)) (fun w' hS' => ex_ixa _ _ _ rfl 5 ea_ar_70_5 ⟨g1, 0, none⟩ (F.e rfl) .i64 _ (F.e rfl) i rfl (by omega) ⟨g1, i, none⟩ ((addr_add _ _ _).trans (by rw [Nat.zero_add]))) hS ?_; clear F a; intro a F
   refine any_val F 23 rfl (by kernel_rfl) (F.wants 46 false rfl (by kernel_rfl) rfl true rfl) rfl rfl (.int .i64 ((szs.getD i 0 : Nat) : Int)) (fun w' hS' => ex_load _ _ rfl _ (F.e rfl) _ (lv1 ea_one_3 (hS'.cell (i := 0) rfl (j := i) (ncs_arr (by show _ < 5; omega))))) hS ?_; clear F a; intro a F
   refine any_val F 24 rfl (by kernel_rfl) (F.wants 46 false rfl (by kernel_rfl) rfl true rfl) rfl rfl (.int .u64 ((BitVec.ofNat 64 (rp k).length).toNat : Int)) (fun w' hS' => ex_conv _ _ _ rfl _ .u64 ea_cv_3_62_u64 _ (F.e rfl) _ ((w64 (szs.getD i 0)).trans (by rw [hlk, hkm]))) hS ?_; clear F a; intro a F
   refine any_ready [20] (by kernel_rfl) (by simp) ?_
   refine ready_do rfl (F.wants 46 false rfl (by kernel_rfl) rfl true rfl) (fun K hK => ?_) AllReadyH.nil
   refine ow_call rfl rfl F 36 #[.pointer (some ⟨g12, 0, none⟩)] (ex_call 36 _ _ rfl rfl ea_ent_36 _ (map1 (F.e rfl))) (len_any (rp k) (.slice A2 ((feed hIni (rp k)).2.length) k2) _ ⟨g12, 0, none⟩ _ (M.at (i := 0) rfl)) (fun e v hR => ?_)
   obtain ⟨he, hb⟩ := hR
   refine ⟨.int .u64 ((BitVec.ofNat 64 (rp k).length).toNat : Int), he, ?_⟩; clear he F a; intro a F
   replace hS : Mm w v [⟨g1, (ncs szs).toArray, 70⟩] := (by refine (M.below hb).pick' [1] _ ?_ (by decide); exact ⟨rfl, trivial⟩)
   refine hK _ _ hS ?_
   clear hK K
   replace R_ := R_.below hb
   replace M := M.below hb; clear hb; try clear u
   refine any_val F 25 rfl (by kernel_rfl) (F.wants 46 false rfl (by kernel_rfl) rfl true rfl) rfl rfl (.bool false) (fun w' hS' => ex_bin .neq _ _ _ _ rfl .u64 _ _ (F.e rfl) (F.e rfl) _ (b_neq (by simp))) hS ?_; clear F a; intro a F
   refine any_val F 26 rfl (by kernel_rfl) (wn rfl) rfl rfl (.bool false) (fun w' hS' => ex_pick_f _ _ _ rfl (F.e rfl) _ (F.e rfl)) hS ?_; clear F a; intro a F
   refine any_done (by kernel_rfl) ?_
   exact ⟨F.keep ⟨rfl, rfl, rfl, rfl, rfl, rfl, rfl, rfl, rfl, rfl, trivial⟩, (by refine M.pick' [0, 1] _ ?_ (by decide); exact ⟨rfl, rfl, trivial⟩), R_⟩
  clear F M a R_
  intro a u hR; obtain ⟨F, M, R_⟩ := hR; try clear v
  refine then_n ?_
  refine wp_cond_false (F.e rfl) ?_
  refine wp_skip ?_
  refine in_n ?_
  refine then_n ?_
  refine wp_region_lit ?_
  refine list_val F (wn rfl) rfl rfl (.int .i64 ((i : Nat) : Int)) (ex_move _ rfl _ (F.e rfl)) ?_; clear F a; intro a F
  refine list_val F (wn rfl) rfl rfl (.int .i64 ((i + 1 : Nat) : Int)) (ex_bin .add _ _ _ _ rfl .i64 _ _ (F.e rfl) rfl _ (b_add ((w_i64 (by omega) (by omega)).trans (by omega)))) ?_; clear F a; intro a F
  refine list_val F (wn rfl) rfl rfl (.int .i64 ((i + 1 : Nat) : Int)) (ex_assign _ rfl _ (F.e rfl)) ?_; clear F a; intro a F
  refine wpList_nil ?_
  replace F : Fr 65 a [(0, .bool false), (1, .pointer (some ⟨g1, 0, none⟩)), (2, .int .i64 ((i + 1 : Nat) : Int)), (3, .pointer (some ⟨g12, 0, none⟩)), (4, .slice A4 ((rp k).length) c4), (5, .int .i64 ((k : Nat) : Int)), (9, .bool true), (14, .bool false), (19, .bool false), (54, .bool false)] := F.keep ⟨rfl, rfl, rfl, rfl, rfl, rfl, rfl, rfl, rfl, rfl, trivial⟩
  refine then_n ?_
  replace R_ := R_.pick [] [] trivial (by decide)
  exact ⟨5 - (i + 1), by omega, (i + 1), F.keep ⟨rfl, rfl, rfl, trivial⟩, (by refine M.pick' [1] _ ?_ (by decide); exact ⟨rfl, trivial⟩), R_, (by omega), (by omega)⟩
 refine wp_seq ?_
 refine wp_seq ?_
 refine wp_region_lit ?_
 refine list_val F (wn rfl) rfl rfl (.int .i64 ((i : Nat) : Int)) (ex_move _ rfl _ (F.e rfl)) ?_; clear F a; intro a F
 refine list_val F (wn rfl) rfl rfl (.bool false) (ex_bin .lss _ _ _ _ rfl .i64 _ _ (F.e rfl) rfl _ (b_lss (decide_eq_false (by omega)))) ?_; clear F a; intro a F
 refine wpList_nil ?_
 replace F : Fr 65 a [(0, .bool false), (1, .pointer (some ⟨g1, 0, none⟩)), (2, .int .i64 ((i : Nat) : Int)), (9, .bool false)] := F.keep ⟨rfl, rfl, rfl, rfl, trivial⟩
 refine then_n ?_
 refine wp_cond_false (F.e rfl) ?_
 refine wp_exit ?_
 refine then_x ?_
 refine then_x ?_
 refine in_hit ?_
 refine then_n ?_
 refine wp_seq ?_
 replace R_ := R_.pick [] [] trivial (by decide)
 refine wp_region_lit ?_
 refine list_do (wn rfl) (fun K hK => ?_)
 refine ow_lit F M R_ rfl rfl 20 _ rfl #[(0, .int .u8 11), (1, .int .u8 11), (2, .int .u8 11), (3, .int .u8 11), (4, .int .u8 11), (5, .int .u8 11), (6, .int .u8 11), (7, .int .u8 11), (8, .int .u8 11), (9, .int .u8 11), (10, .int .u8 11), (11, .int .u8 11), (12, .int .u8 11), (13, .int .u8 11), (14, .int .u8 11), (15, .int .u8 11), (16, .int .u8 11), (17, .int .u8 11), (18, .int .u8 11), (19, .int .u8 11)] (by simp [Act.eval]) [11, 11, 11, 11, 11, 11, 11, 11, 11, 11, 11, 11, 11, 11, 11, 11, 11, 11, 11, 11] rfl rfl (by kernel_rfl) ?_
 clear F M R_; intro a g55 u F M R_ hb
 refine hK _ _ ?_
 clear hK K
 clear hb; try clear v
 refine list_val F (wn rfl) rfl rfl (.slice (some ⟨g55, 0, none⟩) 20 20) (ex_assign _ rfl _ (F.e rfl)) ?_; clear F a; intro a F
 refine wpList_nil ?_
 replace F : Fr 65 a [(0, .bool false), (1, .pointer (some ⟨g1, 0, none⟩)), (2, .int .i64 ((i : Nat) : Int)), (6, .slice (some ⟨g55, 0, none⟩) 20 20), (9, .bool false)] := F.keep ⟨rfl, rfl, rfl, rfl, rfl, trivial⟩
 refine then_n ?_
 refine wp_seq ?_
 refine wp_region_lit ?_
 refine list_val F (wn rfl) rfl rfl (.slice (some ⟨g55, 0, none⟩) 20 20) (ex_move _ rfl _ (F.e rfl)) ?_; clear F a; intro a F
 refine list_do (wn rfl) (fun K hK => ?_)
 refine ow_lit F M R_ rfl rfl 8 _ rfl #[(0, .int .u8 72), (1, .int .u8 105), (2, .int .u8 32), (3, .int .u8 84), (4, .int .u8 104), (5, .int .u8 101), (6, .int .u8 114), (7, .int .u8 101)] (by simp [Act.eval]) [72, 105, 32, 84, 104, 101, 114, 101] rfl rfl (by kernel_rfl) ?_
 clear F M R_; intro a g57 v F M R_ hb
 refine hK _ _ ?_
 clear hK K
 clear hb; try clear u
 refine list_do (wn rfl) (fun K hK => ?_)
 refine ow_markR F rfl rfl _ rfl g57 [72, 105, 32, 84, 104, 101, 114, 101] 8 M rfl R_ (F.e rfl) (by decide) ?_
 clear F M R_; intro a u F M R_ hL58
 refine hK _ _ ?_
 clear hK K
 try clear v
 refine list_do (wn rfl) (fun K hK => ?_)
 refine ow_call rfl rfl F 21 #[.slice (some ⟨g55, 0, none⟩) 20 20, .slice (some ⟨g57, 0, none⟩) 8 8] (ex_call 21 _ _ rfl rfl ea_ent_21 _ (map2 (F.e rfl) (F.e rfl))) (mac_any [11, 11, 11, 11, 11, 11, 11, 11, 11, 11, 11, 11, 11, 11, 11, 11, 11, 11, 11, 11] [72, 105, 32, 84, 104, 101, 114, 101] _ _ 20 20 8 8 _ (hKt.below M.bel) (R_.rb (i := 0) rfl) (Nat.le_refl _) hL58 (Nat.le_refl _)) (fun e v hR => ?_)
 obtain ⟨he, hb⟩ := hR
 refine ⟨.agg ((bcs (mac [11, 11, 11, 11, 11, 11, 11, 11, 11, 11, 11, 11, 11, 11, 11, 11, 11, 11, 11, 11] [72, 105, 32, 84, 104, 101, 114, 101])).toArray), he, ?_⟩; clear he F a; intro a F
 refine hK _ _ ?_
 clear hK K
 replace R_ := R_.below hb
 replace hL58 := hL58.below hb
 replace M := M.below hb; clear hb; try clear u
 clear hL58
 refine list_do (wn rfl) (fun K hK => ?_)
 refine ow_call rfl rfl F 38 #[.agg ((bcs (mac [11, 11, 11, 11, 11, 11, 11, 11, 11, 11, 11, 11, 11, 11, 11, 11, 11, 11, 11, 11] [72, 105, 32, 84, 104, 101, 114, 101])).toArray)] (ex_call 38 _ _ rfl rfl ea_ent_38 _ (map1 (F.e rfl))) (hexed_any (mac [11, 11, 11, 11, 11, 11, 11, 11, 11, 11, 11, 11, 11, 11, 11, 11, 11, 11, 11, 11] [72, 105, 32, 84, 104, 101, 114, 101]) (mac_len _ _) _) (fun e u hR => ?_)
 obtain ⟨he, hb⟩ := hR
 refine ⟨.string (strB (hexB (mac [11, 11, 11, 11, 11, 11, 11, 11, 11, 11, 11, 11, 11, 11, 11, 11, 11, 11, 11, 11] [72, 105, 32, 84, 104, 101, 114, 101]))), he, ?_⟩; clear he F a; intro a F
 refine hK _ _ ?_
 clear hK K
 replace R_ := R_.below hb
 replace M := M.below hb; clear hb; try clear v
 refine list_val F (wn rfl) rfl rfl (.bool true) (ex_eqls _ _ _ rfl (hexB (mac [11, 11, 11, 11, 11, 11, 11, 11, 11, 11, 11, 11, 11, 11, 11, 11, 11, 11, 11, 11] [72, 105, 32, 84, 104, 101, 114, 101])) ([98, 48, 51, 52, 52, 99, 54, 49, 100, 56, 100, 98, 51, 56, 53, 51, 53, 99, 97, 56, 97, 102, 99, 101, 97, 102, 48, 98, 102, 49, 50, 98, 56, 56, 49, 100, 99, 50, 48, 48, 99, 57, 56, 51, 51, 100, 97, 55, 50, 54, 101, 57, 51, 55, 54, 99, 50, 101, 51, 50, 99, 102, 102, 55]) (F.e rfl) rfl true (decide_eq_true kMac)) ?_; clear F a; intro a F
 refine list_val F (wn rfl) rfl rfl (.bool true) (ex_move _ rfl _ (F.e rfl)) ?_; clear F a; intro a F
 refine list_do (F.wants 62 true rfl (by kernel_rfl) rfl true rfl) (fun K hK => ?_)
 refine ow_call rfl rfl F 19 #[] (ex_call 19 _ _ rfl rfl ea_ent_19 _ (map0)) (wakes_any _ (hKt.below M.bel)) (fun e v hR => ?_)
 obtain ⟨he, hb⟩ := hR
 refine ⟨.bool true, he, ?_⟩; clear he F a; intro a F
 refine hK _ _ ?_
 clear hK K
 replace R_ := R_.below hb
 replace M := M.below hb; clear hb; try clear u
 refine list_val F (wn rfl) rfl rfl (.bool true) (ex_pick_t _ _ _ rfl (F.e rfl) _ (F.e rfl)) ?_; clear F a; intro a F
 refine list_val F (wn rfl) rfl rfl (.bool true) (ex_assign _ rfl _ (F.e rfl)) ?_; clear F a; intro a F
 refine wpList_nil ?_
 replace F : Fr 65 a [(0, .bool true), (1, .pointer (some ⟨g1, 0, none⟩)), (2, .int .i64 ((i : Nat) : Int)), (6, .slice (some ⟨g55, 0, none⟩) 20 20), (9, .bool false)] := F.keep ⟨rfl, rfl, rfl, rfl, rfl, trivial⟩
 refine then_n ?_
 refine wp_ret ?_
 exact ret_tmp F rfl rfl ⟨rfl, M.bel⟩
end Go.Proofs.YtkppipeadibfkaaDoor
