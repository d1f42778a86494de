/- Package radix: text (21), Text64 (7). Conditions: the bytes are read; there are no more than 1000000. -/
import Derived.Test.YtadaacoddfkalaaDoorST
import Derived.Test.YtadaacoddfkalaaDoorSH
import Derived.Test.YtadaacoddfkalaaDoorB0
import Derived.Test.YtadaacoddfkalaaDoorD0
namespace Go.Proofs.YtadaacoddfkalaaDoor
open Go.RowKit Go.Proofs.YtadaacoddfkalaaDoorW.PrintWords KB WG RO
set_option linter.unusedVariables false
set_option linter.unusedSimpArgs false
set_option linter.unnecessarySimpa false
theorem un9 : Tryd.prog.underlying 9 = some .string := by kernel_rfl
theorem un5 : Tryd.prog.underlying 5 = some (.int .u8) := by kernel_rfl
theorem s5 : (Tryd.prog.info? 5).map (·.size) = some 1 := by kernel_rfl
theorem i5 : (Tryd.prog.info? 5).map (fun i => (i.zero, i.size, i.bytes)) = some (some (.int .u8 0), 1, 1) := by kernel_rfl
theorem zero63 : ∀ w, (zeroValue 63).run Tryd.prog w = .ok (.agg #[.pointer none, .slice none 0 0]) w := fun _ => by kernel_rfl
def sLet : List UInt8 := [65, 66, 67, 68, 69, 70, 71, 72, 73, 74, 75, 76, 77, 78, 79, 80, 81, 82, 83, 84, 85, 86, 87, 88, 89, 90, 97, 98, 99, 100, 101, 102, 103, 104, 105, 106, 107, 108, 109, 110, 111, 112, 113, 114, 115, 116, 117, 118, 119, 120, 121, 122, 48, 49, 50, 51, 52, 53, 54, 55, 56, 57]
def sUrl : List UInt8 := [65, 66, 67, 68, 69, 70, 71, 72, 73, 74, 75, 76, 77, 78, 79, 80, 81, 82, 83, 84, 85, 86, 87, 88, 89, 90, 97, 98, 99, 100, 101, 102, 103, 104, 105, 106, 107, 108, 109, 110, 111, 112, 113, 114, 115, 116, 117, 118, 119, 120, 121, 122, 48, 49, 50, 51, 52, 53, 54, 55, 56, 57, 45, 95]
def sPlain : List UInt8 := [65, 66, 67, 68, 69, 70, 71, 72, 73, 74, 75, 76, 77, 78, 79, 80, 81, 82, 83, 84, 85, 86, 87, 88, 89, 90, 97, 98, 99, 100, 101, 102, 103, 104, 105, 106, 107, 108, 109, 110, 111, 112, 113, 114, 115, 116, 117, 118, 119, 120, 121, 122, 48, 49, 50, 51, 52, 53, 54, 55, 56, 57, 43, 47]
def sHex : List UInt8 := [48, 49, 50, 51, 52, 53, 54, 55, 56, 57, 97, 98, 99, 100, 101, 102]
section
variable {P : Program} {op : Oper} {ρ : Operand → Value} {w : World}
theorem ex_minE (x y : Operand) (ts : Array TypeId) (ho : op.op = .call { callee := .builtin .min, args := #[x, y], argTypes := ts }) (k : IntKind) (a b : Int) (hx : ρ x = .int k a) (hy : ρ y = .int k b) (r : Int) (hr : min a b = r) : (execOp ρ op).run P w = .ok (.value (.int k r)) w := by
  subst hr
  unfold execOp
  simp only [ho, resolve, List.map_toArray, List.map_cons, List.map_nil, hx, hy, Sem.run_bind, Sem.run_pure, Result.andThen_ok, invoke, builtin, run_min_int2]
  rw [show (if b < a then b else a) = min a b by split <;> omega]
end
theorem mm_of_bel {w0 w : World} (h : Below w0.heap.size w0 w) : Mm w0 w [] := ⟨h, fun _ _ h => by simp at h, fun _ _ h => by simp at h, fun _ _ _ _ h => by simp at h⟩
theorem builder_new {w : World} {B g : Nat} (hh : w.heap[g]? = some (.cells #[.pointer none, .slice none 0 0] 63 (0, 0))) (hB : B ≤ g) : Lib.IsBuilderF 63 5 B g (Lib.byteCells []) w :=
  Lib.IsBuilderF.of (.inl ⟨hB, .slice none 0 0, hh, ⟨by simp [Lib.byteCells], .inl ⟨rfl, rfl⟩⟩, by simp [Value.ownBlock]⟩)
theorem bl_push (acc : List UInt8) (b : UInt8) : Lib.byteCells acc ++ [Value.int .u8 (b.toNat : Int)] = Lib.byteCells (acc ++ [b]) := by simp [Lib.byteCells]
theorem bl_len (acc : List UInt8) : (Lib.byteCells acc).length = acc.length := by simp [Lib.byteCells]
theorem L_get {set : List UInt8} (hs : set.length = 64) {n k : Nat} : set[six n k]? = some (L64 set (six n k)) := by
  have h : six n k < 64 := Nat.mod_lt _ (by decide)
  unfold L64
  rw [List.getD_eq_getElem?_getD, List.getElem?_eq_getElem (by omega)]
  rfl
theorem getD_some {l : List UInt8} {i : Nat} {x : UInt8} (h : l[i]? = some x) : l.getD i 0 = x := by rw [List.getD_eq_getElem?_getD, h]; rfl
theorem getD_none {l : List UInt8} {i : Nat} (h : l.length ≤ i) : l.getD i 0 = 0 := by rw [List.getD_eq_getElem?_getD, List.getElem?_eq_none h]; rfl
theorem range_snoc (f : Nat → UInt8) (acc : List UInt8) (i : Nat) : acc ++ (List.range (i + 1)).map f = (acc ++ (List.range i).map f) ++ [f i] := by rw [List.range_succ, List.map_append, List.append_assoc]; rfl
theorem tri_lt (l : List UInt8) : tri l < 16777216 := by
  unfold tri
  have h0 := UInt8.toNat_lt (l.getD 0 0)
  have h1 := UInt8.toNat_lt (l.getD 1 0)
  have h2 := UInt8.toNat_lt (l.getD 2 0)
  omega
theorem or8 (b a : Nat) (h : b < 256) : b ||| a * 256 = a * 256 + b := ST.or_add (n := 8) h
theorem or16 (b a : Nat) (h : b < 65536) : b ||| a * 65536 = a * 65536 + b := ST.or_add (n := 16) h
theorem and63 (a : Nat) : a &&& 63 = a % 64 := ST.and_mod a 6
theorem g1_sl_28_1 : sl? Tryd.prog 28 1 = true := by kernel_rfl
theorem g1_ent_31 : ent? Tryd.prog 31 = true := by kernel_rfl
theorem g1_one_5 : one? Tryd.prog 5 = true := by kernel_rfl
theorem g1_cv_5_64_u32 : cv? Tryd.prog 5 64 .u32 = true := by kernel_rfl
theorem g1_ent_32 : ent? Tryd.prog 32 = true := by kernel_rfl
set_option maxHeartbeats 1000000 in
set_option maxRecDepth 100000 in
theorem text_any (set : List UInt8) (hs : set.length = 64) (xs : List UInt8) (A : Option Addr) (c : Nat) (w : World) (hr : ST.kB.C w A xs.length xs) (hc : xs.length ≤ c) (hmx : xs.length ≤ 1000000) :
    Calls Tryd.prog 21 #[.slice A xs.length c, .string (ST.str set)] w fun e w' => e = .returned (.string (ST.str (enc set xs))) ∧ Below w.heap.size w w' := by
 refine calls_start Tryd.func21 rfl rfl rfl (fun a F => ?_)
 have M : Mm w w [] := Mm.nil w
 refine wp_seq ?_
 refine wp_region_lit ?_
 refine list_val F (wn rfl) rfl rfl (.string (ST.str ([] : List UInt8))) (ex_assign _ rfl _ rfl) ?_; clear F a; intro a F
 refine wpList_nil ?_
 replace F : Fr 59 a [(0, .slice A xs.length c), (1, .string (ST.str set)), (4, .string (ST.str ([] : List UInt8)))] := F.keep ⟨rfl, rfl, rfl, trivial⟩
 refine then_n ?_
 refine ST.wp_scopeN 0 (fun mq ar wr => ∃ (g5 : Nat), ∃ (A2 : Option Addr), ∃ (c2 : Nat), ∃ (ys : List UInt8), ∃ (acc : List UInt8), ∃ (r : Nat), Fr 59 ar [(0, .slice A2 ys.length c2), (1, .string (ST.str set)), (4, .string (ST.str ([] : List UInt8))), (5, .pointer (some ⟨g5, 0, none⟩))] ∧ Mm w wr [] ∧ Lib.IsBuilderF 63 5 w.heap.size g5 (Lib.byteCells acc) wr ∧ ST.kB.C w A2 ys.length ys ∧ ys.length ≤ c2 ∧ acc ++ enc set ys = enc set xs ∧ r + ys.length ≤ xs.length ∧ mq + r = xs.length) rfl (fun hpass => ?_) ?_
 ·
  refine wp_seq ?_
  refine wp_region_lit ?_
  refine list_do (wn rfl) (fun K hK => ?_)
  refine ow_alloc F M rfl rfl 63 rfl (.agg #[.pointer none, .slice none 0 0]) zero63 #[.pointer none, .slice none 0 0] rfl ?_
  clear F M a; intro a g5 v F M hb hg
  refine hK _ _ ?_
  clear hK K
  clear hb hg; try clear w
  refine wpList_nil ?_
  replace F : Fr 59 a [(0, .slice A xs.length c), (1, .string (ST.str set)), (4, .string (ST.str ([] : List UInt8))), (5, .pointer (some ⟨g5, 0, none⟩))] := F.keep ⟨rfl, rfl, rfl, rfl, trivial⟩
  refine then_n ?_
  refine wp_seq ?_
  refine wp_label ?_
  refine then_n ?_
  have O_b := builder_new (M.blk 0 _ rfl) (M.lo 0 _ rfl)
  exact hpass xs.length _ _ ⟨g5, A, c, xs, [], 0, F.keep ⟨rfl, rfl, rfl, rfl, trivial⟩, (by refine M.pick' [] _ ?_ (by decide); exact trivial), O_b, hr, hc, (List.nil_append _), (by omega), (by omega)⟩
 clear F M a
 rintro mq a u ⟨g5, A2, c2, ys, acc, r, F, M, O_b, hC, hcap, hacc, hr_, hq⟩; try clear w
 have htri := tri_lt ys
 have hel := enc_len set xs
 have hal : acc.length + (enc set ys).length = (enc set xs).length := by rw [← hacc, List.length_append]
 by_cases h0 : ys.length = 0
 ·
  have hfin : acc = enc set xs := by rw [← hacc, List.eq_nil_of_length_eq_zero h0]; simp [enc]
  refine wp_seq ?_
  refine wp_region_lit ?_
  refine list_val F (wn rfl) rfl rfl (.int .u32 0) (ex_assign _ rfl _ rfl) ?_; clear F a; intro a F
  refine wpList_nil ?_
  replace F : Fr 59 a [(0, .slice A2 ys.length c2), (1, .string (ST.str set)), (4, .string (ST.str ([] : List UInt8))), (5, .pointer (some ⟨g5, 0, none⟩)), (6, .int .u32 0)] := F.keep ⟨rfl, rfl, rfl, rfl, rfl, trivial⟩
  refine then_n ?_
  refine wp_seq ?_
  refine wp_seq ?_
  refine wp_region_lit ?_
  refine list_val F (wn rfl) rfl rfl (.slice A2 ys.length c2) (ex_move _ rfl _ (F.e rfl)) ?_; clear F a; intro a F
  refine list_val F (wn rfl) rfl rfl (.int .i64 ((ys.length : Nat) : Int)) (ex_len _ _ rfl 1 g1_sl_28_1 _ _ _ (F.e rfl)) ?_; clear F a; intro a F
  refine wpList_nil ?_
  replace F : Fr 59 a [(0, .slice A2 ys.length c2), (1, .string (ST.str set)), (4, .string (ST.str ([] : List UInt8))), (5, .pointer (some ⟨g5, 0, none⟩)), (6, .int .u32 0), (9, .int .i64 ((ys.length : Nat) : Int))] := F.keep ⟨rfl, rfl, rfl, rfl, rfl, rfl, trivial⟩
  refine then_n ?_
  refine wp_block ?_
  refine wp_seq ?_
  refine wp_block ?_
  refine wp_seq ?_
  refine wp_block ?_
  refine wp_seq ?_
  refine wp_block ?_
  refine wp_seq ?_
  refine wp_block ?_
  refine wp_seq ?_
  refine wp_seq ?_
  refine wp_seq ?_
  refine wp_region_lit ?_
  refine list_val F (wn rfl) rfl rfl (.bool false) (ex_bin .eql _ _ _ _ rfl .i64 _ _ (F.e rfl) rfl _ (b_eql (by rw [h0]; rfl))) ?_; clear F a; intro a F
  refine list_val F (wn rfl) rfl rfl (.bool false) (ex_assign _ rfl _ (F.e rfl)) ?_; clear F a; intro a F
  refine wpList_nil ?_
  replace F : Fr 59 a [(0, .slice A2 ys.length c2), (1, .string (ST.str set)), (4, .string (ST.str ([] : List UInt8))), (5, .pointer (some ⟨g5, 0, none⟩)), (6, .int .u32 0), (9, .int .i64 ((ys.length : Nat) : Int)), (10, .bool false)] := F.keep ⟨rfl, rfl, rfl, rfl, rfl, rfl, rfl, trivial⟩
  refine then_n ?_
  refine wp_cond_false (F.e rfl) ?_
  refine wp_skip ?_
  refine then_n ?_
  refine wp_seq ?_
  refine wp_seq ?_
  refine wp_region_lit ?_
  refine list_val F (wn rfl) rfl rfl (.bool false) (ex_bin .eql _ _ _ _ rfl .i64 _ _ (F.e rfl) rfl _ (b_eql (by rw [h0]; rfl))) ?_; clear F a; intro a F
  refine list_val F (wn rfl) rfl rfl (.bool false) (ex_assign _ rfl _ (F.e rfl)) ?_; clear F a; intro a F
  refine wpList_nil ?_
  replace F : Fr 59 a [(0, .slice A2 ys.length c2), (1, .string (ST.str set)), (4, .string (ST.str ([] : List UInt8))), (5, .pointer (some ⟨g5, 0, none⟩)), (6, .int .u32 0), (9, .int .i64 ((ys.length : Nat) : Int)), (10, .bool false), (12, .bool false)] := F.keep ⟨rfl, rfl, rfl, rfl, rfl, rfl, rfl, rfl, trivial⟩
  refine then_n ?_
  refine wp_cond_false (F.e rfl) ?_
  refine wp_skip ?_
  refine then_n ?_
  refine wp_seq ?_
  refine wp_region_lit ?_
  refine list_val F (wn rfl) rfl rfl (.bool true) (ex_bin .eql _ _ _ _ rfl .i64 _ _ (F.e rfl) rfl _ (b_eql (by rw [h0]; rfl))) ?_; clear F a; intro a F
  refine list_val F (wn rfl) rfl rfl (.bool true) (ex_assign _ rfl _ (F.e rfl)) ?_; clear F a; intro a F
  refine wpList_nil ?_
  replace F : Fr 59 a [(0, .slice A2 ys.length c2), (1, .string (ST.str set)), (4, .string (ST.str ([] : List UInt8))), (5, .pointer (some ⟨g5, 0, none⟩)), (6, .int .u32 0), (9, .int .i64 ((ys.length : Nat) : Int)), (10, .bool false), (12, .bool false), (14, .bool true)] := F.keep ⟨rfl, rfl, rfl, rfl, rfl, rfl, rfl, rfl, rfl, trivial⟩
  refine then_n ?_
  refine wp_cond_true (F.e rfl) ?_
  refine wp_exit ?_
  refine then_x ?_
  refine in_miss rfl ?_
  refine then_x ?_
  refine in_miss rfl ?_
  refine then_x ?_
  refine in_miss rfl ?_
  refine then_x ?_
  refine in_hit ?_
  refine then_n ?_
  refine wp_seq ?_
  refine wp_seq ?_
  refine wp_region_lit ?_
  refine list_do (wn rfl) (fun K hK => ?_)
  refine ow_call rfl rfl F 31 #[.pointer (some ⟨g5, 0, none⟩)] (ex_call 31 _ _ rfl rfl g1_ent_31 _ (map1 (F.e rfl))) (Tryd.Builder_String_any_k w.heap.size g5 acc _ O_b M.bel.size) (fun e v hR => ?_)
  obtain ⟨he, hO, hb, hk⟩ := hR
  clear hO O_b
  refine ⟨.string (ST.str acc), he, ?_⟩; clear he F a; intro a F
  refine hK _ _ ?_
  clear hK K
  replace M : Mm w v [] := mm_of_bel (M.bel.trans hb)
  clear hb hk; try clear u
  refine list_val F (wn rfl) rfl rfl (.string (ST.str acc)) (ex_assign _ rfl _ (F.e rfl)) ?_; clear F a; intro a F
  refine wpList_nil ?_
  replace F : Fr 59 a [(0, .slice A2 ys.length c2), (1, .string (ST.str set)), (4, .string (ST.str acc)), (5, .pointer (some ⟨g5, 0, none⟩)), (6, .int .u32 0), (9, .int .i64 ((ys.length : Nat) : Int)), (10, .bool false), (12, .bool false), (14, .bool true)] := F.keep ⟨rfl, rfl, rfl, rfl, rfl, rfl, rfl, rfl, rfl, trivial⟩
  refine then_n ?_
  refine wp_ret ?_
  refine then_r ?_
  refine in_r ?_
  refine then_r ?_
  refine ST.jump_r ?_
  exact ret_tmp F rfl rfl ⟨by rw [← hfin], M.bel⟩
 have hes := enc_step (set := set) (l := ys) (by intro e; rw [e] at h0; exact h0 rfl)
 obtain ⟨x0, hx0⟩ : ∃ x, ys[0]? = some x := ⟨_, List.getElem?_eq_getElem (by omega)⟩
 obtain ⟨ad0, hA0, z0⟩ := C_ix (enc := ST.bc) (m := 1) (hl := ST.bc_len) (h1 := ST.bc_one) hC hx0
 subst hA0
 obtain ⟨ad, rfl⟩ : ∃ a, a = ad0 := ⟨_, rfl⟩
 obtain ⟨y0, rfl⟩ : ∃ a, a = x0 := ⟨_, rfl⟩
 have hb0 := UInt8.toNat_lt y0
 by_cases h1 : ys.length = 1
 ·
  have ht : tri ys = y0.toNat * 65536 := by unfold tri; rw [getD_some hx0, getD_none (by omega), getD_none (by omega)]; simp
  refine wp_seq ?_
  refine wp_region_lit ?_
  refine list_val F (wn rfl) rfl rfl (.int .u32 0) (ex_assign _ rfl _ rfl) ?_; clear F a; intro a F
  refine wpList_nil ?_
  replace F : Fr 59 a [(0, .slice (some ad) ys.length c2), (1, .string (ST.str set)), (4, .string (ST.str ([] : List UInt8))), (5, .pointer (some ⟨g5, 0, none⟩)), (6, .int .u32 0)] := F.keep ⟨rfl, rfl, rfl, rfl, rfl, trivial⟩
  refine then_n ?_
  refine wp_seq ?_
  refine wp_seq ?_
  refine wp_region_lit ?_
  refine list_val F (wn rfl) rfl rfl (.slice (some ad) ys.length c2) (ex_move _ rfl _ (F.e rfl)) ?_; clear F a; intro a F
  refine list_val F (wn rfl) rfl rfl (.int .i64 ((ys.length : Nat) : Int)) (ex_len _ _ rfl 1 g1_sl_28_1 _ _ _ (F.e rfl)) ?_; clear F a; intro a F
  refine wpList_nil ?_
  replace F : Fr 59 a [(0, .slice (some ad) ys.length c2), (1, .string (ST.str set)), (4, .string (ST.str ([] : List UInt8))), (5, .pointer (some ⟨g5, 0, none⟩)), (6, .int .u32 0), (9, .int .i64 ((ys.length : Nat) : Int))] := F.keep ⟨rfl, rfl, rfl, rfl, rfl, rfl, trivial⟩
  refine then_n ?_
  refine wp_block ?_
  refine wp_seq ?_
  refine wp_block ?_
  refine wp_seq ?_
  refine wp_block ?_
  refine wp_seq ?_
  refine wp_block ?_
  refine wp_seq ?_
  refine wp_block ?_
  refine wp_seq ?_
  refine wp_seq ?_
  refine wp_seq ?_
  refine wp_region_lit ?_
  refine list_val F (wn rfl) rfl rfl (.bool false) (ex_bin .eql _ _ _ _ rfl .i64 _ _ (F.e rfl) rfl _ (b_eql (by rw [h1]; rfl))) ?_; clear F a; intro a F
  refine list_val F (wn rfl) rfl rfl (.bool false) (ex_assign _ rfl _ (F.e rfl)) ?_; clear F a; intro a F
  refine wpList_nil ?_
  replace F : Fr 59 a [(0, .slice (some ad) ys.length c2), (1, .string (ST.str set)), (4, .string (ST.str ([] : List UInt8))), (5, .pointer (some ⟨g5, 0, none⟩)), (6, .int .u32 0), (9, .int .i64 ((ys.length : Nat) : Int)), (10, .bool false)] := F.keep ⟨rfl, rfl, rfl, rfl, rfl, rfl, rfl, trivial⟩
  refine then_n ?_
  refine wp_cond_false (F.e rfl) ?_
  refine wp_skip ?_
  refine then_n ?_
  refine wp_seq ?_
  refine wp_seq ?_
  refine wp_region_lit ?_
  refine list_val F (wn rfl) rfl rfl (.bool true) (ex_bin .eql _ _ _ _ rfl .i64 _ _ (F.e rfl) rfl _ (b_eql (by rw [h1]; rfl))) ?_; clear F a; intro a F
  refine list_val F (wn rfl) rfl rfl (.bool true) (ex_assign _ rfl _ (F.e rfl)) ?_; clear F a; intro a F
  refine wpList_nil ?_
  replace F : Fr 59 a [(0, .slice (some ad) ys.length c2), (1, .string (ST.str set)), (4, .string (ST.str ([] : List UInt8))), (5, .pointer (some ⟨g5, 0, none⟩)), (6, .int .u32 0), (9, .int .i64 ((ys.length : Nat) : Int)), (10, .bool false), (12, .bool true)] := F.keep ⟨rfl, rfl, rfl, rfl, rfl, rfl, rfl, rfl, trivial⟩
  refine then_n ?_
  refine wp_cond_true (F.e rfl) ?_
  refine wp_exit ?_
  refine then_x ?_
  refine then_x ?_
  refine in_miss rfl ?_
  refine then_x ?_
  refine in_miss rfl ?_
  refine then_x ?_
  refine in_hit ?_
  refine then_n ?_
  refine wp_seq ?_
  refine wp_region_lit ?_
  refine list_val F (wn rfl) rfl rfl (.int .u32 0) (ex_move _ rfl _ (F.e rfl)) ?_; clear F a; intro a F
  refine list_val F (wn rfl) rfl rfl (.slice (some ad) ys.length c2) (ex_move _ rfl _ (F.e rfl)) ?_; clear F a; intro a F
  refine list_val F (wn rfl) rfl rfl (.pointer (some (ad.add (0 * 1)))) (ex_ix _ _ _ rfl 1 g1_sl_28_1 ad _ _ (F.e rfl) .i64 _ rfl 0 rfl (by omega) (ad.add (0 * 1)) rfl) ?_; clear F a; intro a F
  refine list_val F (wn rfl) rfl rfl (.int .u8 ((y0.toNat : Nat) : Int)) (ex_load _ _ rfl _ (F.e rfl) _ (lv1 g1_one_5 ((z0.below M.bel).cell 0 _ rfl))) ?_; clear F a; intro a F
  refine list_val F (wn rfl) rfl rfl (.int .u32 ((y0.toNat : Nat) : Int)) (ex_conv _ _ _ rfl _ .u32 g1_cv_5_64_u32 _ (F.e rfl) _ (w_u32 (by omega) (by omega))) ?_; clear F a; intro a F
  refine list_val F (wn rfl) rfl rfl (.int .u32 (((y0.toNat * 2 ^ 16) : Nat) : Int)) (ST.ex_shlN _ _ _ _ rfl .u32 .u64 y0.toNat 16 _ (F.e rfl) rfl rfl (by show _ ≤ 32; omega) (y0.toNat * 2 ^ 16) rfl (w_u32 (by omega) (by omega))) ?_; clear F a; intro a F
  refine list_val F (wn rfl) rfl rfl (.int .u32 (((y0.toNat * 65536) : Nat) : Int)) (ST.ex_orN _ _ _ _ rfl .u32 0 (y0.toNat * 2 ^ 16) (F.e rfl) (F.e rfl) (by show _ < 4294967296; omega) (by show _ < 4294967296; omega) (y0.toNat * 65536) (Nat.zero_or _) (w_u32 (by omega) (by omega))) ?_; clear F a; intro a F
  refine list_val F (wn rfl) rfl rfl (.int .u32 (((y0.toNat * 65536) : Nat) : Int)) (ex_assign _ rfl _ (F.e rfl)) ?_; clear F a; intro a F
  refine wpList_nil ?_
  replace F : Fr 59 a [(0, .slice (some ad) ys.length c2), (1, .string (ST.str set)), (4, .string (ST.str ([] : List UInt8))), (5, .pointer (some ⟨g5, 0, none⟩)), (6, .int .u32 (((y0.toNat * 65536) : Nat) : Int)), (9, .int .i64 ((ys.length : Nat) : Int)), (10, .bool false), (12, .bool true)] := F.keep ⟨rfl, rfl, rfl, rfl, rfl, rfl, rfl, rfl, trivial⟩
  refine then_n ?_
  refine wp_exit ?_
  refine in_miss rfl ?_
  refine then_x ?_
  refine in_hit ?_
  refine then_n ?_
  refine wp_seq ?_
  refine wp_seq ?_
  obtain ⟨n6, hn6⟩ : ∃ n, n = tri ys := ⟨_, rfl⟩
  rw [← ht, ← hn6] at F
  refine wp_region_lit ?_
  refine list_val F (wn rfl) rfl rfl (.slice (some ad) ys.length c2) (ex_move _ rfl _ (F.e rfl)) ?_; clear F a; intro a F
  refine list_val F (wn rfl) rfl rfl (.int .i64 ((ys.length : Nat) : Int)) (ex_len _ _ rfl 1 g1_sl_28_1 _ _ _ (F.e rfl)) ?_; clear F a; intro a F
  refine list_val F (wn rfl) rfl rfl (.int .i64 ((min ys.length 3 : Nat) : Int)) (ex_minE _ _ _ rfl .i64 ((ys.length : Nat) : Int) 3 (F.e rfl) rfl ((min ys.length 3 : Nat) : Int) (by omega)) ?_; clear F a; intro a F
  refine list_val F (wn rfl) rfl rfl (.int .i64 ((min ys.length 3 + 1 : Nat) : Int)) (ex_bin .add _ _ _ _ rfl .i64 _ _ (F.e rfl) rfl _ (b_add ((w_i64 (by omega) (by omega)).trans (by omega)))) ?_; clear F a; intro a F
  refine list_val F (wn rfl) rfl rfl (.int .i64 0) (ex_move _ rfl _ rfl) ?_; clear F a; intro a F
  refine wpList_nil ?_
  replace F : Fr 59 a [(0, .slice (some ad) ys.length c2), (1, .string (ST.str set)), (4, .string (ST.str ([] : List UInt8))), (5, .pointer (some ⟨g5, 0, none⟩)), (6, .int .u32 ((n6 : Nat) : Int)), (9, .int .i64 ((ys.length : Nat) : Int)), (10, .bool false), (12, .bool true), (40, .int .i64 ((min ys.length 3 + 1 : Nat) : Int)), (41, .int .i64 0)] := F.keep ⟨rfl, rfl, rfl, rfl, rfl, rfl, rfl, rfl, rfl, rfl, trivial⟩
  refine then_n ?_
  refine wp_block ?_
  refine wp_loopN (fun mq ar wr => ∃ (i : Nat), ∃ (acc2 : List UInt8), Fr 59 ar [(0, .slice (some ad) ys.length c2), (1, .string (ST.str set)), (4, .string (ST.str ([] : List UInt8))), (5, .pointer (some ⟨g5, 0, none⟩)), (6, .int .u32 ((n6 : Nat) : Int)), (9, .int .i64 ((ys.length : Nat) : Int)), (10, .bool false), (12, .bool true), (40, .int .i64 ((min ys.length 3 + 1 : Nat) : Int)), (41, .int .i64 ((i : Nat) : Int))] ∧ Mm w wr [] ∧ Lib.IsBuilderF 63 5 w.heap.size g5 (Lib.byteCells acc2) wr ∧ i ≤ min ys.length 3 + 1 ∧ acc2 = acc ++ (List.range i).map (fun k => L64 set (six (tri ys) k)) ∧ mq + i = (min ys.length 3 + 1)) (min ys.length 3 + 1) ?_ ?_
  ·
   exact ⟨0, acc, F.keep ⟨rfl, rfl, rfl, rfl, rfl, rfl, rfl, rfl, rfl, rfl, trivial⟩, M, O_b, (Nat.zero_le _), (by simp), (by omega)⟩
  clear F M a O_b
  rintro mq a v ⟨i, acc2, F, M, O_b, hi, hacc2, hq⟩; try clear u
  have hl2 : acc2.length = acc.length + i := by rw [hacc2]; simp
  have hgl : (enc set ys).length ≥ min ys.length 3 + 1 := by rw [hes, List.length_append, grp, List.length_map, List.length_range]; omega
  by_cases hin : i < min ys.length 3 + 1
  ·
   refine wp_seq ?_
   refine wp_region_lit ?_
   refine list_val F (wn rfl) rfl rfl (.bool true) (ex_bin .lss _ _ _ _ rfl .i64 _ _ (F.e rfl) (F.e rfl) _ (b_lss (decide_eq_true (by omega)))) ?_; clear F a; intro a F
   refine wpList_nil ?_
   replace F : Fr 59 a [(0, .slice (some ad) ys.length c2), (1, .string (ST.str set)), (4, .string (ST.str ([] : List UInt8))), (5, .pointer (some ⟨g5, 0, none⟩)), (6, .int .u32 ((n6 : Nat) : Int)), (9, .int .i64 ((ys.length : Nat) : Int)), (10, .bool false), (12, .bool true), (40, .int .i64 ((min ys.length 3 + 1 : Nat) : Int)), (41, .int .i64 ((i : Nat) : Int)), (42, .bool true)] := F.keep ⟨rfl, rfl, rfl, rfl, rfl, rfl, rfl, rfl, rfl, rfl, rfl, trivial⟩
   refine then_n ?_
   refine wp_seq ?_
   refine wp_cond_true (F.e rfl) ?_
   refine wp_skip ?_
   refine then_n ?_
   refine wp_seq ?_
   refine wp_block ?_
   refine wp_seq ?_
   refine wp_region_lit ?_
   refine list_val F (wn rfl) rfl rfl (.int .i64 ((i : Nat) : Int)) (ex_move _ rfl _ (F.e rfl)) ?_; clear F a; intro a F
   refine list_val F (wn rfl) rfl rfl (.int .i64 ((i : Nat) : Int)) (ex_assign _ rfl _ (F.e rfl)) ?_; clear F a; intro a F
   refine wpList_nil ?_
   replace F : Fr 59 a [(0, .slice (some ad) ys.length c2), (1, .string (ST.str set)), (4, .string (ST.str ([] : List UInt8))), (5, .pointer (some ⟨g5, 0, none⟩)), (6, .int .u32 ((n6 : Nat) : Int)), (7, .int .i64 ((i : Nat) : Int)), (9, .int .i64 ((ys.length : Nat) : Int)), (10, .bool false), (12, .bool true), (40, .int .i64 ((min ys.length 3 + 1 : Nat) : Int)), (41, .int .i64 ((i : Nat) : Int)), (42, .bool true)] := F.keep ⟨rfl, rfl, rfl, rfl, rfl, rfl, rfl, rfl, rfl, rfl, rfl, rfl, trivial⟩
   refine then_n ?_
   refine wp_region_lit ?_
   refine list_val F (wn rfl) rfl rfl (.string (ST.str set)) (ex_move _ rfl _ (F.e rfl)) ?_; clear F a; intro a F
   refine list_val F (wn rfl) rfl rfl (.int .u32 ((n6 : Nat) : Int)) (ex_move _ rfl _ (F.e rfl)) ?_; clear F a; intro a F
   refine list_val F (wn rfl) rfl rfl (.int .i64 ((i : Nat) : Int)) (ex_move _ rfl _ (F.e rfl)) ?_; clear F a; intro a F
   refine list_val F (wn rfl) rfl rfl (.int .i64 ((6 * i : Nat) : Int)) (ex_bin .mul _ _ _ _ rfl .i64 _ _ rfl (F.e rfl) _ (b_mul ((w_i64 (by omega) (by omega)).trans (by omega)))) ?_; clear F a; intro a F
   refine list_val F (wn rfl) rfl rfl (.int .i64 ((18 - 6 * i : Nat) : Int)) (ex_bin .sub _ _ _ _ rfl .i64 _ _ rfl (F.e rfl) _ (b_sub ((w_i64 (by omega) (by omega)).trans (by omega)))) ?_; clear F a; intro a F
   refine list_val F (wn rfl) rfl rfl (.int .u32 (((n6 / 2 ^ (18 - 6 * i)) : Nat) : Int)) (ST.ex_shrN _ _ _ _ rfl .u32 .i64 n6 (18 - 6 * i) _ (F.e rfl) (F.e rfl) rfl (by show _ ≤ 32; omega) (n6 / 2 ^ (18 - 6 * i)) rfl) ?_; clear F a; intro a F
   refine list_val F (wn rfl) rfl rfl (.int .u32 (((six n6 i) : Nat) : Int)) (ST.ex_andN _ _ _ _ rfl .u32 (n6 / 2 ^ (18 - 6 * i)) 63 (F.e rfl) rfl (Nat.lt_of_le_of_lt (Nat.div_le_self _ _) (by show _ < 4294967296; omega)) (by show _ < 4294967296; omega) (six n6 i) (and63 _) (w_u32 (Int.natCast_nonneg _) (by have h_ : six n6 i < 64 := Nat.mod_lt _ (by decide); omega))) ?_; clear F a; intro a F
   refine list_val F (wn rfl) rfl rfl (.int .u8 (((L64 set (six n6 i)).toNat : Nat) : Int)) (ST.ex_ixs 9 _ _ rfl un9 set (F.e rfl) .u32 _ (F.e rfl) (six n6 i) rfl (L64 set (six n6 i)) (L_get hs)) ?_; clear F a; intro a F
   refine list_do (wn rfl) (fun K hK => ?_)
   refine ow_call rfl rfl F 32 #[.pointer (some ⟨g5, 0, none⟩), .int .u8 (((L64 set (six n6 i)).toNat : Nat) : Int)] (ex_call 32 _ _ rfl rfl g1_ent_32 _ (map2 (F.e rfl) (F.e rfl))) (Tryd.Builder_WriteByte_k w.heap.size g5 (Lib.byteCells acc2) _ _ O_b (by rw [bl_len]; omega) M.bel.size) (fun e u hR => ?_)
   obtain ⟨he, hO, hb, hk⟩ := hR
   refine ⟨.nilIface, he, ?_⟩; clear he F a; intro a F
   refine hK _ _ ?_
   clear hK K
   replace M : Mm w u [] := mm_of_bel (M.bel.trans hb)
   clear hb hk; try clear v
   rw [bl_push] at hO
   replace O_b : Lib.IsBuilderF 63 5 w.heap.size g5 (Lib.byteCells (acc2 ++ [L64 set (six n6 i)])) u := .inr hO
   clear hO
   refine wpList_nil ?_
   replace F : Fr 59 a [(0, .slice (some ad) ys.length c2), (1, .string (ST.str set)), (4, .string (ST.str ([] : List UInt8))), (5, .pointer (some ⟨g5, 0, none⟩)), (6, .int .u32 ((n6 : Nat) : Int)), (7, .int .i64 ((i : Nat) : Int)), (9, .int .i64 ((ys.length : Nat) : Int)), (10, .bool false), (12, .bool true), (40, .int .i64 ((min ys.length 3 + 1 : Nat) : Int)), (41, .int .i64 ((i : Nat) : Int)), (42, .bool true)] := F.keep ⟨rfl, rfl, rfl, rfl, rfl, rfl, rfl, rfl, rfl, rfl, rfl, rfl, trivial⟩
   refine in_n ?_
   refine then_n ?_
   refine wp_region_lit ?_
   refine list_val F (wn rfl) rfl rfl (.int .i64 ((i + 1 : Nat) : Int)) (ex_bin .add _ _ _ _ rfl .i64 _ _ (F.e rfl) rfl _ (b_add ((w_i64 (by omega) (by omega)).trans (by omega)))) ?_; clear F a; intro a F
   refine list_val F (wn rfl) rfl rfl (.int .i64 ((i + 1 : Nat) : Int)) (ex_move _ rfl _ (F.e rfl)) ?_; clear F a; intro a F
   refine wpList_nil ?_
   replace F : Fr 59 a [(0, .slice (some ad) ys.length c2), (1, .string (ST.str set)), (4, .string (ST.str ([] : List UInt8))), (5, .pointer (some ⟨g5, 0, none⟩)), (6, .int .u32 ((n6 : Nat) : Int)), (7, .int .i64 ((i : Nat) : Int)), (9, .int .i64 ((ys.length : Nat) : Int)), (10, .bool false), (12, .bool true), (40, .int .i64 ((min ys.length 3 + 1 : Nat) : Int)), (41, .int .i64 ((i + 1 : Nat) : Int)), (42, .bool true)] := F.keep ⟨rfl, rfl, rfl, rfl, rfl, rfl, rfl, rfl, rfl, rfl, rfl, rfl, trivial⟩
   refine then_n ?_
   exact ⟨(min ys.length 3 + 1) - (i + 1), by omega, (i + 1), (acc2 ++ [L64 set (six n6 i)]), F.keep ⟨rfl, rfl, rfl, rfl, rfl, rfl, rfl, rfl, rfl, rfl, trivial⟩, (by refine M.pick' [] _ ?_ (by decide); exact trivial), O_b, (by omega), (by rw [hacc2, hn6]; exact (range_snoc _ _ _).symm), (by omega)⟩
  have hi4 : i = min ys.length 3 + 1 := by omega
  refine wp_seq ?_
  refine wp_region_lit ?_
  refine list_val F (wn rfl) rfl rfl (.bool false) (ex_bin .lss _ _ _ _ rfl .i64 _ _ (F.e rfl) (F.e rfl) _ (b_lss (decide_eq_false (by omega)))) ?_; clear F a; intro a F
  refine wpList_nil ?_
  replace F : Fr 59 a [(0, .slice (some ad) ys.length c2), (1, .string (ST.str set)), (4, .string (ST.str ([] : List UInt8))), (5, .pointer (some ⟨g5, 0, none⟩)), (6, .int .u32 ((n6 : Nat) : Int)), (9, .int .i64 ((ys.length : Nat) : Int)), (10, .bool false), (12, .bool true), (40, .int .i64 ((min ys.length 3 + 1 : Nat) : Int)), (41, .int .i64 ((i : Nat) : Int)), (42, .bool false)] := F.keep ⟨rfl, rfl, rfl, rfl, rfl, rfl, rfl, rfl, rfl, rfl, rfl, trivial⟩
  refine then_n ?_
  refine wp_seq ?_
  refine wp_cond_false (F.e rfl) ?_
  refine wp_exit ?_
  refine then_x ?_
  refine then_x ?_
  refine in_hit ?_
  refine then_n ?_
  refine wp_seq ?_
  refine wp_region_lit ?_
  refine list_val F (wn rfl) rfl rfl (.slice (some ad) ys.length c2) (ex_move _ rfl _ (F.e rfl)) ?_; clear F a; intro a F
  refine list_val F (wn rfl) rfl rfl (.slice (some ad) ys.length c2) (ex_move _ rfl _ (F.e rfl)) ?_; clear F a; intro a F
  refine list_val F (wn rfl) rfl rfl (.int .i64 ((ys.length : Nat) : Int)) (ex_len _ _ rfl 1 g1_sl_28_1 _ _ _ (F.e rfl)) ?_; clear F a; intro a F
  refine list_val F (wn rfl) rfl rfl (.int .i64 ((min ys.length 3 : Nat) : Int)) (ex_minE _ _ _ rfl .i64 ((ys.length : Nat) : Int) 3 (F.e rfl) rfl ((min ys.length 3 : Nat) : Int) (by omega)) ?_; clear F a; intro a F
  refine list_val F (wn rfl) rfl rfl (.slice (cutA 1 (some ad) (min ys.length 3) c2) (ys.length - (min ys.length 3)) (c2 - (min ys.length 3))) (ex_cutend 28 5 1 Tryd.underlying28 s5 _ _ rfl (some ad) ys.length c2 (F.e rfl) _ (F.e rfl) (min ys.length 3) rfl (by omega)) ?_; clear F a; intro a F
  refine list_val F (wn rfl) rfl rfl (.slice (cutA 1 (some ad) (min ys.length 3) c2) (ys.length - (min ys.length 3)) (c2 - (min ys.length 3))) (ex_assign _ rfl _ (F.e rfl)) ?_; clear F a; intro a F
  refine wpList_nil ?_
  replace F : Fr 59 a [(0, .slice (cutA 1 (some ad) (min ys.length 3) c2) (ys.length - (min ys.length 3)) (c2 - (min ys.length 3))), (1, .string (ST.str set)), (4, .string (ST.str ([] : List UInt8))), (5, .pointer (some ⟨g5, 0, none⟩)), (6, .int .u32 ((n6 : Nat) : Int)), (9, .int .i64 ((ys.length : Nat) : Int)), (10, .bool false), (12, .bool true), (40, .int .i64 ((min ys.length 3 + 1 : Nat) : Int)), (41, .int .i64 ((i : Nat) : Int)), (42, .bool false)] := F.keep ⟨rfl, rfl, rfl, rfl, rfl, rfl, rfl, rfl, rfl, rfl, rfl, trivial⟩
  refine then_n ?_
  refine wp_goto ?_
  refine ST.jump_g ?_
  rw [show ys.length - min ys.length 3 = (ys.drop (min ys.length 3)).length from List.length_drop.symm] at F
  exact ⟨xs.length - (r + 1), by omega, g5, (cutA 1 (some ad) (min ys.length 3) c2), (c2 - (min ys.length 3)), (ys.drop (min ys.length 3)), acc2, (r + 1), F.keep ⟨rfl, rfl, rfl, rfl, trivial⟩, (by refine M.pick' [] _ ?_ (by decide); exact trivial), O_b, (by have h_ := C_snd hC (i := (min ys.length 3)) (by omega) hcap; rwa [← List.length_drop] at h_), (by rw [List.length_drop]; omega), (by rw [← hacc, hes, hacc2, hi4, List.append_assoc]; rfl), (by rw [List.length_drop]; omega), (by omega)⟩
 obtain ⟨x1, hx1⟩ : ∃ x, ys[1]? = some x := ⟨_, List.getElem?_eq_getElem (by omega)⟩
 obtain ⟨ad1, hA1, z1⟩ := C_ix (enc := ST.bc) (m := 1) (hl := ST.bc_len) (h1 := ST.bc_one) hC hx1
 obtain rfl := Option.some.inj hA1
 obtain ⟨y1, rfl⟩ : ∃ a, a = x1 := ⟨_, rfl⟩
 have hb1 := UInt8.toNat_lt y1
 by_cases h2 : ys.length = 2
 ·
  have ht : tri ys = y0.toNat * 65536 + y1.toNat * 256 := by unfold tri; rw [getD_some hx0, getD_some hx1, getD_none (by omega)]; simp
  refine wp_seq ?_
  refine wp_region_lit ?_
  refine list_val F (wn rfl) rfl rfl (.int .u32 0) (ex_assign _ rfl _ rfl) ?_; clear F a; intro a F
  refine wpList_nil ?_
  replace F : Fr 59 a [(0, .slice (some ad) ys.length c2), (1, .string (ST.str set)), (4, .string (ST.str ([] : List UInt8))), (5, .pointer (some ⟨g5, 0, none⟩)), (6, .int .u32 0)] := F.keep ⟨rfl, rfl, rfl, rfl, rfl, trivial⟩
  refine then_n ?_
  refine wp_seq ?_
  refine wp_seq ?_
  refine wp_region_lit ?_
  refine list_val F (wn rfl) rfl rfl (.slice (some ad) ys.length c2) (ex_move _ rfl _ (F.e rfl)) ?_; clear F a; intro a F
  refine list_val F (wn rfl) rfl rfl (.int .i64 ((ys.length : Nat) : Int)) (ex_len _ _ rfl 1 g1_sl_28_1 _ _ _ (F.e rfl)) ?_; clear F a; intro a F
  refine wpList_nil ?_
  replace F : Fr 59 a [(0, .slice (some ad) ys.length c2), (1, .string (ST.str set)), (4, .string (ST.str ([] : List UInt8))), (5, .pointer (some ⟨g5, 0, none⟩)), (6, .int .u32 0), (9, .int .i64 ((ys.length : Nat) : Int))] := F.keep ⟨rfl, rfl, rfl, rfl, rfl, rfl, trivial⟩
  refine then_n ?_
  refine wp_block ?_
  refine wp_seq ?_
  refine wp_block ?_
  refine wp_seq ?_
  refine wp_block ?_
  refine wp_seq ?_
  refine wp_block ?_
  refine wp_seq ?_
  refine wp_block ?_
  refine wp_seq ?_
  refine wp_seq ?_
  refine wp_seq ?_
  refine wp_region_lit ?_
  refine list_val F (wn rfl) rfl rfl (.bool true) (ex_bin .eql _ _ _ _ rfl .i64 _ _ (F.e rfl) rfl _ (b_eql (by rw [h2]; rfl))) ?_; clear F a; intro a F
  refine list_val F (wn rfl) rfl rfl (.bool true) (ex_assign _ rfl _ (F.e rfl)) ?_; clear F a; intro a F
  refine wpList_nil ?_
  replace F : Fr 59 a [(0, .slice (some ad) ys.length c2), (1, .string (ST.str set)), (4, .string (ST.str ([] : List UInt8))), (5, .pointer (some ⟨g5, 0, none⟩)), (6, .int .u32 0), (9, .int .i64 ((ys.length : Nat) : Int)), (10, .bool true)] := F.keep ⟨rfl, rfl, rfl, rfl, rfl, rfl, rfl, trivial⟩
  refine then_n ?_
  refine wp_cond_true (F.e rfl) ?_
  refine wp_exit ?_
  refine then_x ?_
  refine then_x ?_
  refine in_miss rfl ?_
  refine then_x ?_
  refine in_hit ?_
  refine then_n ?_
  refine wp_region_lit ?_
  refine list_val F (wn rfl) rfl rfl (.int .u32 0) (ex_move _ rfl _ (F.e rfl)) ?_; clear F a; intro a F
  refine list_val F (wn rfl) rfl rfl (.slice (some ad) ys.length c2) (ex_move _ rfl _ (F.e rfl)) ?_; clear F a; intro a F
  refine list_val F (wn rfl) rfl rfl (.pointer (some (ad.add (1 * 1)))) (ex_ix _ _ _ rfl 1 g1_sl_28_1 ad _ _ (F.e rfl) .i64 _ rfl 1 rfl (by omega) (ad.add (1 * 1)) rfl) ?_; clear F a; intro a F
  refine list_val F (wn rfl) rfl rfl (.int .u8 ((y1.toNat : Nat) : Int)) (ex_load _ _ rfl _ (F.e rfl) _ (lv1 g1_one_5 ((z1.below M.bel).cell 0 _ rfl))) ?_; clear F a; intro a F
  refine list_val F (wn rfl) rfl rfl (.int .u32 ((y1.toNat : Nat) : Int)) (ex_conv _ _ _ rfl _ .u32 g1_cv_5_64_u32 _ (F.e rfl) _ (w_u32 (by omega) (by omega))) ?_; clear F a; intro a F
  refine list_val F (wn rfl) rfl rfl (.int .u32 (((y1.toNat * 2 ^ 8) : Nat) : Int)) (ST.ex_shlN _ _ _ _ rfl .u32 .u64 y1.toNat 8 _ (F.e rfl) rfl rfl (by show _ ≤ 32; omega) (y1.toNat * 2 ^ 8) rfl (w_u32 (by omega) (by omega))) ?_; clear F a; intro a F
  refine list_val F (wn rfl) rfl rfl (.int .u32 (((y1.toNat * 256) : Nat) : Int)) (ST.ex_orN _ _ _ _ rfl .u32 0 (y1.toNat * 2 ^ 8) (F.e rfl) (F.e rfl) (by show _ < 4294967296; omega) (by show _ < 4294967296; omega) (y1.toNat * 256) (Nat.zero_or _) (w_u32 (by omega) (by omega))) ?_; clear F a; intro a F
  refine list_val F (wn rfl) rfl rfl (.int .u32 (((y1.toNat * 256) : Nat) : Int)) (ex_assign _ rfl _ (F.e rfl)) ?_; clear F a; intro a F
  refine wpList_nil ?_
  replace F : Fr 59 a [(0, .slice (some ad) ys.length c2), (1, .string (ST.str set)), (4, .string (ST.str ([] : List UInt8))), (5, .pointer (some ⟨g5, 0, none⟩)), (6, .int .u32 (((y1.toNat * 256) : Nat) : Int)), (9, .int .i64 ((ys.length : Nat) : Int)), (10, .bool true)] := F.keep ⟨rfl, rfl, rfl, rfl, rfl, rfl, rfl, trivial⟩
  refine in_n ?_
  refine then_n ?_
  refine wp_seq ?_
  refine wp_region_lit ?_
  refine list_val F (wn rfl) rfl rfl (.int .u32 (((y1.toNat * 256) : Nat) : Int)) (ex_move _ rfl _ (F.e rfl)) ?_; clear F a; intro a F
  refine list_val F (wn rfl) rfl rfl (.slice (some ad) ys.length c2) (ex_move _ rfl _ (F.e rfl)) ?_; clear F a; intro a F
  refine list_val F (wn rfl) rfl rfl (.pointer (some (ad.add (0 * 1)))) (ex_ix _ _ _ rfl 1 g1_sl_28_1 ad _ _ (F.e rfl) .i64 _ rfl 0 rfl (by omega) (ad.add (0 * 1)) rfl) ?_; clear F a; intro a F
  refine list_val F (wn rfl) rfl rfl (.int .u8 ((y0.toNat : Nat) : Int)) (ex_load _ _ rfl _ (F.e rfl) _ (lv1 g1_one_5 ((z0.below M.bel).cell 0 _ rfl))) ?_; clear F a; intro a F
  refine list_val F (wn rfl) rfl rfl (.int .u32 ((y0.toNat : Nat) : Int)) (ex_conv _ _ _ rfl _ .u32 g1_cv_5_64_u32 _ (F.e rfl) _ (w_u32 (by omega) (by omega))) ?_; clear F a; intro a F
  refine list_val F (wn rfl) rfl rfl (.int .u32 (((y0.toNat * 2 ^ 16) : Nat) : Int)) (ST.ex_shlN _ _ _ _ rfl .u32 .u64 y0.toNat 16 _ (F.e rfl) rfl rfl (by show _ ≤ 32; omega) (y0.toNat * 2 ^ 16) rfl (w_u32 (by omega) (by omega))) ?_; clear F a; intro a F
  refine list_val F (wn rfl) rfl rfl (.int .u32 (((y0.toNat * 65536 + y1.toNat * 256) : Nat) : Int)) (ST.ex_orN _ _ _ _ rfl .u32 (y1.toNat * 256) (y0.toNat * 2 ^ 16) (F.e rfl) (F.e rfl) (by show _ < 4294967296; omega) (by show _ < 4294967296; omega) (y0.toNat * 65536 + y1.toNat * 256) (or16 _ _ (by omega)) (w_u32 (by omega) (by omega))) ?_; clear F a; intro a F
  refine list_val F (wn rfl) rfl rfl (.int .u32 (((y0.toNat * 65536 + y1.toNat * 256) : Nat) : Int)) (ex_assign _ rfl _ (F.e rfl)) ?_; clear F a; intro a F
  refine wpList_nil ?_
  replace F : Fr 59 a [(0, .slice (some ad) ys.length c2), (1, .string (ST.str set)), (4, .string (ST.str ([] : List UInt8))), (5, .pointer (some ⟨g5, 0, none⟩)), (6, .int .u32 (((y0.toNat * 65536 + y1.toNat * 256) : Nat) : Int)), (9, .int .i64 ((ys.length : Nat) : Int)), (10, .bool true)] := F.keep ⟨rfl, rfl, rfl, rfl, rfl, rfl, rfl, trivial⟩
  refine then_n ?_
  refine wp_exit ?_
  refine in_miss rfl ?_
  refine then_x ?_
  refine in_hit ?_
  refine then_n ?_
  refine wp_seq ?_
  refine wp_seq ?_
  obtain ⟨n6, hn6⟩ : ∃ n, n = tri ys := ⟨_, rfl⟩
  rw [← ht, ← hn6] at F
  refine wp_region_lit ?_
  refine list_val F (wn rfl) rfl rfl (.slice (some ad) ys.length c2) (ex_move _ rfl _ (F.e rfl)) ?_; clear F a; intro a F
  refine list_val F (wn rfl) rfl rfl (.int .i64 ((ys.length : Nat) : Int)) (ex_len _ _ rfl 1 g1_sl_28_1 _ _ _ (F.e rfl)) ?_; clear F a; intro a F
  refine list_val F (wn rfl) rfl rfl (.int .i64 ((min ys.length 3 : Nat) : Int)) (ex_minE _ _ _ rfl .i64 ((ys.length : Nat) : Int) 3 (F.e rfl) rfl ((min ys.length 3 : Nat) : Int) (by omega)) ?_; clear F a; intro a F
  refine list_val F (wn rfl) rfl rfl (.int .i64 ((min ys.length 3 + 1 : Nat) : Int)) (ex_bin .add _ _ _ _ rfl .i64 _ _ (F.e rfl) rfl _ (b_add ((w_i64 (by omega) (by omega)).trans (by omega)))) ?_; clear F a; intro a F
  refine list_val F (wn rfl) rfl rfl (.int .i64 0) (ex_move _ rfl _ rfl) ?_; clear F a; intro a F
  refine wpList_nil ?_
  replace F : Fr 59 a [(0, .slice (some ad) ys.length c2), (1, .string (ST.str set)), (4, .string (ST.str ([] : List UInt8))), (5, .pointer (some ⟨g5, 0, none⟩)), (6, .int .u32 ((n6 : Nat) : Int)), (9, .int .i64 ((ys.length : Nat) : Int)), (10, .bool true), (40, .int .i64 ((min ys.length 3 + 1 : Nat) : Int)), (41, .int .i64 0)] := F.keep ⟨rfl, rfl, rfl, rfl, rfl, rfl, rfl, rfl, rfl, trivial⟩
  refine then_n ?_
  refine wp_block ?_
  refine wp_loopN (fun mq ar wr => ∃ (i : Nat), ∃ (acc2 : List UInt8), Fr 59 ar [(0, .slice (some ad) ys.length c2), (1, .string (ST.str set)), (4, .string (ST.str ([] : List UInt8))), (5, .pointer (some ⟨g5, 0, none⟩)), (6, .int .u32 ((n6 : Nat) : Int)), (9, .int .i64 ((ys.length : Nat) : Int)), (10, .bool true), (40, .int .i64 ((min ys.length 3 + 1 : Nat) : Int)), (41, .int .i64 ((i : Nat) : Int))] ∧ Mm w wr [] ∧ Lib.IsBuilderF 63 5 w.heap.size g5 (Lib.byteCells acc2) wr ∧ i ≤ min ys.length 3 + 1 ∧ acc2 = acc ++ (List.range i).map (fun k => L64 set (six (tri ys) k)) ∧ mq + i = (min ys.length 3 + 1)) (min ys.length 3 + 1) ?_ ?_
  ·
   exact ⟨0, acc, F.keep ⟨rfl, rfl, rfl, rfl, rfl, rfl, rfl, rfl, rfl, trivial⟩, M, O_b, (Nat.zero_le _), (by simp), (by omega)⟩
  clear F M a O_b
  rintro mq a v ⟨i, acc2, F, M, O_b, hi, hacc2, hq⟩; try clear u
  have hl2 : acc2.length = acc.length + i := by rw [hacc2]; simp
  have hgl : (enc set ys).length ≥ min ys.length 3 + 1 := by rw [hes, List.length_append, grp, List.length_map, List.length_range]; omega
  by_cases hin : i < min ys.length 3 + 1
  ·
   refine wp_seq ?_
   refine wp_region_lit ?_
   refine list_val F (wn rfl) rfl rfl (.bool true) (ex_bin .lss _ _ _ _ rfl .i64 _ _ (F.e rfl) (F.e rfl) _ (b_lss (decide_eq_true (by omega)))) ?_; clear F a; intro a F
   refine wpList_nil ?_
   replace F : Fr 59 a [(0, .slice (some ad) ys.length c2), (1, .string (ST.str set)), (4, .string (ST.str ([] : List UInt8))), (5, .pointer (some ⟨g5, 0, none⟩)), (6, .int .u32 ((n6 : Nat) : Int)), (9, .int .i64 ((ys.length : Nat) : Int)), (10, .bool true), (40, .int .i64 ((min ys.length 3 + 1 : Nat) : Int)), (41, .int .i64 ((i : Nat) : Int)), (42, .bool true)] := F.keep ⟨rfl, rfl, rfl, rfl, rfl, rfl, rfl, rfl, rfl, rfl, trivial⟩
   refine then_n ?_
   refine wp_seq ?_
   refine wp_cond_true (F.e rfl) ?_
   refine wp_skip ?_
   refine then_n ?_
   refine wp_seq ?_
   refine wp_block ?_
   refine wp_seq ?_
   refine wp_region_lit ?_
   refine list_val F (wn rfl) rfl rfl (.int .i64 ((i : Nat) : Int)) (ex_move _ rfl _ (F.e rfl)) ?_; clear F a; intro a F
   refine list_val F (wn rfl) rfl rfl (.int .i64 ((i : Nat) : Int)) (ex_assign _ rfl _ (F.e rfl)) ?_; clear F a; intro a F
   refine wpList_nil ?_
   replace F : Fr 59 a [(0, .slice (some ad) ys.length c2), (1, .string (ST.str set)), (4, .string (ST.str ([] : List UInt8))), (5, .pointer (some ⟨g5, 0, none⟩)), (6, .int .u32 ((n6 : Nat) : Int)), (7, .int .i64 ((i : Nat) : Int)), (9, .int .i64 ((ys.length : Nat) : Int)), (10, .bool true), (40, .int .i64 ((min ys.length 3 + 1 : Nat) : Int)), (41, .int .i64 ((i : Nat) : Int)), (42, .bool true)] := F.keep ⟨rfl, rfl, rfl, rfl, rfl, rfl, rfl, rfl, rfl, rfl, rfl, trivial⟩
   refine then_n ?_
   refine wp_region_lit ?_
   refine list_val F (wn rfl) rfl rfl (.string (ST.str set)) (ex_move _ rfl _ (F.e rfl)) ?_; clear F a; intro a F
   refine list_val F (wn rfl) rfl rfl (.int .u32 ((n6 : Nat) : Int)) (ex_move _ rfl _ (F.e rfl)) ?_; clear F a; intro a F
   refine list_val F (wn rfl) rfl rfl (.int .i64 ((i : Nat) : Int)) (ex_move _ rfl _ (F.e rfl)) ?_; clear F a; intro a F
   refine list_val F (wn rfl) rfl rfl (.int .i64 ((6 * i : Nat) : Int)) (ex_bin .mul _ _ _ _ rfl .i64 _ _ rfl (F.e rfl) _ (b_mul ((w_i64 (by omega) (by omega)).trans (by omega)))) ?_; clear F a; intro a F
   refine list_val F (wn rfl) rfl rfl (.int .i64 ((18 - 6 * i : Nat) : Int)) (ex_bin .sub _ _ _ _ rfl .i64 _ _ rfl (F.e rfl) _ (b_sub ((w_i64 (by omega) (by omega)).trans (by omega)))) ?_; clear F a; intro a F
   refine list_val F (wn rfl) rfl rfl (.int .u32 (((n6 / 2 ^ (18 - 6 * i)) : Nat) : Int)) (ST.ex_shrN _ _ _ _ rfl .u32 .i64 n6 (18 - 6 * i) _ (F.e rfl) (F.e rfl) rfl (by show _ ≤ 32; omega) (n6 / 2 ^ (18 - 6 * i)) rfl) ?_; clear F a; intro a F
   refine list_val F (wn rfl) rfl rfl (.int .u32 (((six n6 i) : Nat) : Int)) (ST.ex_andN _ _ _ _ rfl .u32 (n6 / 2 ^ (18 - 6 * i)) 63 (F.e rfl) rfl (Nat.lt_of_le_of_lt (Nat.div_le_self _ _) (by show _ < 4294967296; omega)) (by show _ < 4294967296; omega) (six n6 i) (and63 _) (w_u32 (Int.natCast_nonneg _) (by have h_ : six n6 i < 64 := Nat.mod_lt _ (by decide); omega))) ?_; clear F a; intro a F
   refine list_val F (wn rfl) rfl rfl (.int .u8 (((L64 set (six n6 i)).toNat : Nat) : Int)) (ST.ex_ixs 9 _ _ rfl un9 set (F.e rfl) .u32 _ (F.e rfl) (six n6 i) rfl (L64 set (six n6 i)) (L_get hs)) ?_; clear F a; intro a F
   refine list_do (wn rfl) (fun K hK => ?_)
   refine ow_call rfl rfl F 32 #[.pointer (some ⟨g5, 0, none⟩), .int .u8 (((L64 set (six n6 i)).toNat : Nat) : Int)] (ex_call 32 _ _ rfl rfl g1_ent_32 _ (map2 (F.e rfl) (F.e rfl))) (Tryd.Builder_WriteByte_k w.heap.size g5 (Lib.byteCells acc2) _ _ O_b (by rw [bl_len]; omega) M.bel.size) (fun e u hR => ?_)
   obtain ⟨he, hO, hb, hk⟩ := hR
   refine ⟨.nilIface, he, ?_⟩; clear he F a; intro a F
   refine hK _ _ ?_
   clear hK K
   replace M : Mm w u [] := mm_of_bel (M.bel.trans hb)
   clear hb hk; try clear v
   rw [bl_push] at hO
   replace O_b : Lib.IsBuilderF 63 5 w.heap.size g5 (Lib.byteCells (acc2 ++ [L64 set (six n6 i)])) u := .inr hO
   clear hO
   refine wpList_nil ?_
   replace F : Fr 59 a [(0, .slice (some ad) ys.length c2), (1, .string (ST.str set)), (4, .string (ST.str ([] : List UInt8))), (5, .pointer (some ⟨g5, 0, none⟩)), (6, .int .u32 ((n6 : Nat) : Int)), (7, .int .i64 ((i : Nat) : Int)), (9, .int .i64 ((ys.length : Nat) : Int)), (10, .bool true), (40, .int .i64 ((min ys.length 3 + 1 : Nat) : Int)), (41, .int .i64 ((i : Nat) : Int)), (42, .bool true)] := F.keep ⟨rfl, rfl, rfl, rfl, rfl, rfl, rfl, rfl, rfl, rfl, rfl, trivial⟩
   refine in_n ?_
   refine then_n ?_
   refine wp_region_lit ?_
   refine list_val F (wn rfl) rfl rfl (.int .i64 ((i + 1 : Nat) : Int)) (ex_bin .add _ _ _ _ rfl .i64 _ _ (F.e rfl) rfl _ (b_add ((w_i64 (by omega) (by omega)).trans (by omega)))) ?_; clear F a; intro a F
   refine list_val F (wn rfl) rfl rfl (.int .i64 ((i + 1 : Nat) : Int)) (ex_move _ rfl _ (F.e rfl)) ?_; clear F a; intro a F
   refine wpList_nil ?_
   replace F : Fr 59 a [(0, .slice (some ad) ys.length c2), (1, .string (ST.str set)), (4, .string (ST.str ([] : List UInt8))), (5, .pointer (some ⟨g5, 0, none⟩)), (6, .int .u32 ((n6 : Nat) : Int)), (7, .int .i64 ((i : Nat) : Int)), (9, .int .i64 ((ys.length : Nat) : Int)), (10, .bool true), (40, .int .i64 ((min ys.length 3 + 1 : Nat) : Int)), (41, .int .i64 ((i + 1 : Nat) : Int)), (42, .bool true)] := F.keep ⟨rfl, rfl, rfl, rfl, rfl, rfl, rfl, rfl, rfl, rfl, rfl, trivial⟩
   refine then_n ?_
   exact ⟨(min ys.length 3 + 1) - (i + 1), by omega, (i + 1), (acc2 ++ [L64 set (six n6 i)]), F.keep ⟨rfl, rfl, rfl, rfl, rfl, rfl, rfl, rfl, rfl, trivial⟩, (by refine M.pick' [] _ ?_ (by decide); exact trivial), O_b, (by omega), (by rw [hacc2, hn6]; exact (range_snoc _ _ _).symm), (by omega)⟩
  have hi4 : i = min ys.length 3 + 1 := by omega
  refine wp_seq ?_
  refine wp_region_lit ?_
  refine list_val F (wn rfl) rfl rfl (.bool false) (ex_bin .lss _ _ _ _ rfl .i64 _ _ (F.e rfl) (F.e rfl) _ (b_lss (decide_eq_false (by omega)))) ?_; clear F a; intro a F
  refine wpList_nil ?_
  replace F : Fr 59 a [(0, .slice (some ad) ys.length c2), (1, .string (ST.str set)), (4, .string (ST.str ([] : List UInt8))), (5, .pointer (some ⟨g5, 0, none⟩)), (6, .int .u32 ((n6 : Nat) : Int)), (9, .int .i64 ((ys.length : Nat) : Int)), (10, .bool true), (40, .int .i64 ((min ys.length 3 + 1 : Nat) : Int)), (41, .int .i64 ((i : Nat) : Int)), (42, .bool false)] := F.keep ⟨rfl, rfl, rfl, rfl, rfl, rfl, rfl, rfl, rfl, rfl, trivial⟩
  refine then_n ?_
  refine wp_seq ?_
  refine wp_cond_false (F.e rfl) ?_
  refine wp_exit ?_
  refine then_x ?_
  refine then_x ?_
  refine in_hit ?_
  refine then_n ?_
  refine wp_seq ?_
  refine wp_region_lit ?_
  refine list_val F (wn rfl) rfl rfl (.slice (some ad) ys.length c2) (ex_move _ rfl _ (F.e rfl)) ?_; clear F a; intro a F
  refine list_val F (wn rfl) rfl rfl (.slice (some ad) ys.length c2) (ex_move _ rfl _ (F.e rfl)) ?_; clear F a; intro a F
  refine list_val F (wn rfl) rfl rfl (.int .i64 ((ys.length : Nat) : Int)) (ex_len _ _ rfl 1 g1_sl_28_1 _ _ _ (F.e rfl)) ?_; clear F a; intro a F
  refine list_val F (wn rfl) rfl rfl (.int .i64 ((min ys.length 3 : Nat) : Int)) (ex_minE _ _ _ rfl .i64 ((ys.length : Nat) : Int) 3 (F.e rfl) rfl ((min ys.length 3 : Nat) : Int) (by omega)) ?_; clear F a; intro a F
  refine list_val F (wn rfl) rfl rfl (.slice (cutA 1 (some ad) (min ys.length 3) c2) (ys.length - (min ys.length 3)) (c2 - (min ys.length 3))) (ex_cutend 28 5 1 Tryd.underlying28 s5 _ _ rfl (some ad) ys.length c2 (F.e rfl) _ (F.e rfl) (min ys.length 3) rfl (by omega)) ?_; clear F a; intro a F
  refine list_val F (wn rfl) rfl rfl (.slice (cutA 1 (some ad) (min ys.length 3) c2) (ys.length - (min ys.length 3)) (c2 - (min ys.length 3))) (ex_assign _ rfl _ (F.e rfl)) ?_; clear F a; intro a F
  refine wpList_nil ?_
  replace F : Fr 59 a [(0, .slice (cutA 1 (some ad) (min ys.length 3) c2) (ys.length - (min ys.length 3)) (c2 - (min ys.length 3))), (1, .string (ST.str set)), (4, .string (ST.str ([] : List UInt8))), (5, .pointer (some ⟨g5, 0, none⟩)), (6, .int .u32 ((n6 : Nat) : Int)), (9, .int .i64 ((ys.length : Nat) : Int)), (10, .bool true), (40, .int .i64 ((min ys.length 3 + 1 : Nat) : Int)), (41, .int .i64 ((i : Nat) : Int)), (42, .bool false)] := F.keep ⟨rfl, rfl, rfl, rfl, rfl, rfl, rfl, rfl, rfl, rfl, trivial⟩
  refine then_n ?_
  refine wp_goto ?_
  refine ST.jump_g ?_
  rw [show ys.length - min ys.length 3 = (ys.drop (min ys.length 3)).length from List.length_drop.symm] at F
  exact ⟨xs.length - (r + 1), by omega, g5, (cutA 1 (some ad) (min ys.length 3) c2), (c2 - (min ys.length 3)), (ys.drop (min ys.length 3)), acc2, (r + 1), F.keep ⟨rfl, rfl, rfl, rfl, trivial⟩, (by refine M.pick' [] _ ?_ (by decide); exact trivial), O_b, (by have h_ := C_snd hC (i := (min ys.length 3)) (by omega) hcap; rwa [← List.length_drop] at h_), (by rw [List.length_drop]; omega), (by rw [← hacc, hes, hacc2, hi4, List.append_assoc]; rfl), (by rw [List.length_drop]; omega), (by omega)⟩
 obtain ⟨x2, hx2⟩ : ∃ x, ys[2]? = some x := ⟨_, List.getElem?_eq_getElem (by omega)⟩
 obtain ⟨ad2, hA2, z2⟩ := C_ix (enc := ST.bc) (m := 1) (hl := ST.bc_len) (h1 := ST.bc_one) hC hx2
 obtain rfl := Option.some.inj hA2
 obtain ⟨y2, rfl⟩ : ∃ a, a = x2 := ⟨_, rfl⟩
 have hb2 := UInt8.toNat_lt y2
 have ht : tri ys = y0.toNat * 65536 + (y1.toNat * 256 + y2.toNat) := by unfold tri; rw [getD_some hx0, getD_some hx1, getD_some hx2]; omega
 refine wp_seq ?_
 refine wp_region_lit ?_
 refine list_val F (wn rfl) rfl rfl (.int .u32 0) (ex_assign _ rfl _ rfl) ?_; clear F a; intro a F
 refine wpList_nil ?_
 replace F : Fr 59 a [(0, .slice (some ad) ys.length c2), (1, .string (ST.str set)), (4, .string (ST.str ([] : List UInt8))), (5, .pointer (some ⟨g5, 0, none⟩)), (6, .int .u32 0)] := F.keep ⟨rfl, rfl, rfl, rfl, rfl, trivial⟩
 refine then_n ?_
 refine wp_seq ?_
 refine wp_seq ?_
 refine wp_region_lit ?_
 refine list_val F (wn rfl) rfl rfl (.slice (some ad) ys.length c2) (ex_move _ rfl _ (F.e rfl)) ?_; clear F a; intro a F
 refine list_val F (wn rfl) rfl rfl (.int .i64 ((ys.length : Nat) : Int)) (ex_len _ _ rfl 1 g1_sl_28_1 _ _ _ (F.e rfl)) ?_; clear F a; intro a F
 refine wpList_nil ?_
 replace F : Fr 59 a [(0, .slice (some ad) ys.length c2), (1, .string (ST.str set)), (4, .string (ST.str ([] : List UInt8))), (5, .pointer (some ⟨g5, 0, none⟩)), (6, .int .u32 0), (9, .int .i64 ((ys.length : Nat) : Int))] := F.keep ⟨rfl, rfl, rfl, rfl, rfl, rfl, trivial⟩
 refine then_n ?_
 refine wp_block ?_
 refine wp_seq ?_
 refine wp_block ?_
 refine wp_seq ?_
 refine wp_block ?_
 refine wp_seq ?_
 refine wp_block ?_
 refine wp_seq ?_
 refine wp_block ?_
 refine wp_seq ?_
 refine wp_seq ?_
 refine wp_seq ?_
 refine wp_region_lit ?_
 refine list_val F (wn rfl) rfl rfl (.bool false) (ex_bin .eql _ _ _ _ rfl .i64 _ _ (F.e rfl) rfl _ (b_eql (by rw [beq_eq_false_iff_ne]; omega))) ?_; clear F a; intro a F
 refine list_val F (wn rfl) rfl rfl (.bool false) (ex_assign _ rfl _ (F.e rfl)) ?_; clear F a; intro a F
 refine wpList_nil ?_
 replace F : Fr 59 a [(0, .slice (some ad) ys.length c2), (1, .string (ST.str set)), (4, .string (ST.str ([] : List UInt8))), (5, .pointer (some ⟨g5, 0, none⟩)), (6, .int .u32 0), (9, .int .i64 ((ys.length : Nat) : Int)), (10, .bool false)] := F.keep ⟨rfl, rfl, rfl, rfl, rfl, rfl, rfl, trivial⟩
 refine then_n ?_
 refine wp_cond_false (F.e rfl) ?_
 refine wp_skip ?_
 refine then_n ?_
 refine wp_seq ?_
 refine wp_seq ?_
 refine wp_region_lit ?_
 refine list_val F (wn rfl) rfl rfl (.bool false) (ex_bin .eql _ _ _ _ rfl .i64 _ _ (F.e rfl) rfl _ (b_eql (by rw [beq_eq_false_iff_ne]; omega))) ?_; clear F a; intro a F
 refine list_val F (wn rfl) rfl rfl (.bool false) (ex_assign _ rfl _ (F.e rfl)) ?_; clear F a; intro a F
 refine wpList_nil ?_
 replace F : Fr 59 a [(0, .slice (some ad) ys.length c2), (1, .string (ST.str set)), (4, .string (ST.str ([] : List UInt8))), (5, .pointer (some ⟨g5, 0, none⟩)), (6, .int .u32 0), (9, .int .i64 ((ys.length : Nat) : Int)), (10, .bool false), (12, .bool false)] := F.keep ⟨rfl, rfl, rfl, rfl, rfl, rfl, rfl, rfl, trivial⟩
 refine then_n ?_
 refine wp_cond_false (F.e rfl) ?_
 refine wp_skip ?_
 refine then_n ?_
 refine wp_seq ?_
 refine wp_region_lit ?_
 refine list_val F (wn rfl) rfl rfl (.bool false) (ex_bin .eql _ _ _ _ rfl .i64 _ _ (F.e rfl) rfl _ (b_eql (by rw [beq_eq_false_iff_ne]; omega))) ?_; clear F a; intro a F
 refine list_val F (wn rfl) rfl rfl (.bool false) (ex_assign _ rfl _ (F.e rfl)) ?_; clear F a; intro a F
 refine wpList_nil ?_
 replace F : Fr 59 a [(0, .slice (some ad) ys.length c2), (1, .string (ST.str set)), (4, .string (ST.str ([] : List UInt8))), (5, .pointer (some ⟨g5, 0, none⟩)), (6, .int .u32 0), (9, .int .i64 ((ys.length : Nat) : Int)), (10, .bool false), (12, .bool false), (14, .bool false)] := F.keep ⟨rfl, rfl, rfl, rfl, rfl, rfl, rfl, rfl, rfl, trivial⟩
 refine then_n ?_
 refine wp_cond_false (F.e rfl) ?_
 refine wp_skip ?_
 refine then_n ?_
 refine wp_exit ?_
 refine in_hit ?_
 refine then_n ?_
 refine wp_region_lit ?_
 refine list_val F (wn rfl) rfl rfl (.int .u32 0) (ex_move _ rfl _ (F.e rfl)) ?_; clear F a; intro a F
 refine list_val F (wn rfl) rfl rfl (.slice (some ad) ys.length c2) (ex_move _ rfl _ (F.e rfl)) ?_; clear F a; intro a F
 refine list_val F (wn rfl) rfl rfl (.pointer (some (ad.add (2 * 1)))) (ex_ix _ _ _ rfl 1 g1_sl_28_1 ad _ _ (F.e rfl) .i64 _ rfl 2 rfl (by omega) (ad.add (2 * 1)) rfl) ?_; clear F a; intro a F
 refine list_val F (wn rfl) rfl rfl (.int .u8 ((y2.toNat : Nat) : Int)) (ex_load _ _ rfl _ (F.e rfl) _ (lv1 g1_one_5 ((z2.below M.bel).cell 0 _ rfl))) ?_; clear F a; intro a F
 refine list_val F (wn rfl) rfl rfl (.int .u32 ((y2.toNat : Nat) : Int)) (ex_conv _ _ _ rfl _ .u32 g1_cv_5_64_u32 _ (F.e rfl) _ (w_u32 (by omega) (by omega))) ?_; clear F a; intro a F
 refine list_val F (wn rfl) rfl rfl (.int .u32 (((y2.toNat) : Nat) : Int)) (ST.ex_orN _ _ _ _ rfl .u32 0 y2.toNat (F.e rfl) (F.e rfl) (by show _ < 4294967296; omega) (by show _ < 4294967296; omega) (y2.toNat) (Nat.zero_or _) (w_u32 (by omega) (by omega))) ?_; clear F a; intro a F
 refine list_val F (wn rfl) rfl rfl (.int .u32 (((y2.toNat) : Nat) : Int)) (ex_assign _ rfl _ (F.e rfl)) ?_; clear F a; intro a F
 refine wpList_nil ?_
 replace F : Fr 59 a [(0, .slice (some ad) ys.length c2), (1, .string (ST.str set)), (4, .string (ST.str ([] : List UInt8))), (5, .pointer (some ⟨g5, 0, none⟩)), (6, .int .u32 (((y2.toNat) : Nat) : Int)), (9, .int .i64 ((ys.length : Nat) : Int)), (10, .bool false), (12, .bool false), (14, .bool false)] := F.keep ⟨rfl, rfl, rfl, rfl, rfl, rfl, rfl, rfl, rfl, trivial⟩
 refine in_n ?_
 refine then_n ?_
 refine wp_region_lit ?_
 refine list_val F (wn rfl) rfl rfl (.int .u32 (((y2.toNat) : Nat) : Int)) (ex_move _ rfl _ (F.e rfl)) ?_; clear F a; intro a F
 refine list_val F (wn rfl) rfl rfl (.slice (some ad) ys.length c2) (ex_move _ rfl _ (F.e rfl)) ?_; clear F a; intro a F
 refine list_val F (wn rfl) rfl rfl (.pointer (some (ad.add (1 * 1)))) (ex_ix _ _ _ rfl 1 g1_sl_28_1 ad _ _ (F.e rfl) .i64 _ rfl 1 rfl (by omega) (ad.add (1 * 1)) rfl) ?_; clear F a; intro a F
 refine list_val F (wn rfl) rfl rfl (.int .u8 ((y1.toNat : Nat) : Int)) (ex_load _ _ rfl _ (F.e rfl) _ (lv1 g1_one_5 ((z1.below M.bel).cell 0 _ rfl))) ?_; clear F a; intro a F
 refine list_val F (wn rfl) rfl rfl (.int .u32 ((y1.toNat : Nat) : Int)) (ex_conv _ _ _ rfl _ .u32 g1_cv_5_64_u32 _ (F.e rfl) _ (w_u32 (by omega) (by omega))) ?_; clear F a; intro a F
 refine list_val F (wn rfl) rfl rfl (.int .u32 (((y1.toNat * 2 ^ 8) : Nat) : Int)) (ST.ex_shlN _ _ _ _ rfl .u32 .u64 y1.toNat 8 _ (F.e rfl) rfl rfl (by show _ ≤ 32; omega) (y1.toNat * 2 ^ 8) rfl (w_u32 (by omega) (by omega))) ?_; clear F a; intro a F
 refine list_val F (wn rfl) rfl rfl (.int .u32 (((y1.toNat * 256 + y2.toNat) : Nat) : Int)) (ST.ex_orN _ _ _ _ rfl .u32 (y2.toNat) (y1.toNat * 2 ^ 8) (F.e rfl) (F.e rfl) (by show _ < 4294967296; omega) (by show _ < 4294967296; omega) (y1.toNat * 256 + y2.toNat) (or8 _ _ (by omega)) (w_u32 (by omega) (by omega))) ?_; clear F a; intro a F
 refine list_val F (wn rfl) rfl rfl (.int .u32 (((y1.toNat * 256 + y2.toNat) : Nat) : Int)) (ex_assign _ rfl _ (F.e rfl)) ?_; clear F a; intro a F
 refine wpList_nil ?_
 replace F : Fr 59 a [(0, .slice (some ad) ys.length c2), (1, .string (ST.str set)), (4, .string (ST.str ([] : List UInt8))), (5, .pointer (some ⟨g5, 0, none⟩)), (6, .int .u32 (((y1.toNat * 256 + y2.toNat) : Nat) : Int)), (9, .int .i64 ((ys.length : Nat) : Int)), (10, .bool false), (12, .bool false), (14, .bool false)] := F.keep ⟨rfl, rfl, rfl, rfl, rfl, rfl, rfl, rfl, rfl, trivial⟩
 refine in_n ?_
 refine then_n ?_
 refine wp_seq ?_
 refine wp_region_lit ?_
 refine list_val F (wn rfl) rfl rfl (.int .u32 (((y1.toNat * 256 + y2.toNat) : Nat) : Int)) (ex_move _ rfl _ (F.e rfl)) ?_; clear F a; intro a F
 refine list_val F (wn rfl) rfl rfl (.slice (some ad) ys.length c2) (ex_move _ rfl _ (F.e rfl)) ?_; clear F a; intro a F
 refine list_val F (wn rfl) rfl rfl (.pointer (some (ad.add (0 * 1)))) (ex_ix _ _ _ rfl 1 g1_sl_28_1 ad _ _ (F.e rfl) .i64 _ rfl 0 rfl (by omega) (ad.add (0 * 1)) rfl) ?_; clear F a; intro a F
 refine list_val F (wn rfl) rfl rfl (.int .u8 ((y0.toNat : Nat) : Int)) (ex_load _ _ rfl _ (F.e rfl) _ (lv1 g1_one_5 ((z0.below M.bel).cell 0 _ rfl))) ?_; clear F a; intro a F
 refine list_val F (wn rfl) rfl rfl (.int .u32 ((y0.toNat : Nat) : Int)) (ex_conv _ _ _ rfl _ .u32 g1_cv_5_64_u32 _ (F.e rfl) _ (w_u32 (by omega) (by omega))) ?_; clear F a; intro a F
 refine list_val F (wn rfl) rfl rfl (.int .u32 (((y0.toNat * 2 ^ 16) : Nat) : Int)) (ST.ex_shlN _ _ _ _ rfl .u32 .u64 y0.toNat 16 _ (F.e rfl) rfl rfl (by show _ ≤ 32; omega) (y0.toNat * 2 ^ 16) rfl (w_u32 (by omega) (by omega))) ?_; clear F a; intro a F
 refine list_val F (wn rfl) rfl rfl (.int .u32 (((y0.toNat * 65536 + (y1.toNat * 256 + y2.toNat)) : Nat) : Int)) (ST.ex_orN _ _ _ _ rfl .u32 (y1.toNat * 256 + y2.toNat) (y0.toNat * 2 ^ 16) (F.e rfl) (F.e rfl) (by show _ < 4294967296; omega) (by show _ < 4294967296; omega) (y0.toNat * 65536 + (y1.toNat * 256 + y2.toNat)) (or16 _ _ (by omega)) (w_u32 (by omega) (by omega))) ?_; clear F a; intro a F
 refine list_val F (wn rfl) rfl rfl (.int .u32 (((y0.toNat * 65536 + (y1.toNat * 256 + y2.toNat)) : Nat) : Int)) (ex_assign _ rfl _ (F.e rfl)) ?_; clear F a; intro a F
 refine wpList_nil ?_
 replace F : Fr 59 a [(0, .slice (some ad) ys.length c2), (1, .string (ST.str set)), (4, .string (ST.str ([] : List UInt8))), (5, .pointer (some ⟨g5, 0, none⟩)), (6, .int .u32 (((y0.toNat * 65536 + (y1.toNat * 256 + y2.toNat)) : Nat) : Int)), (9, .int .i64 ((ys.length : Nat) : Int)), (10, .bool false), (12, .bool false), (14, .bool false)] := F.keep ⟨rfl, rfl, rfl, rfl, rfl, rfl, rfl, rfl, rfl, trivial⟩
 refine then_n ?_
 refine wp_exit ?_
 refine in_miss rfl ?_
 refine then_x ?_
 refine in_hit ?_
 refine then_n ?_
 refine wp_seq ?_
 refine wp_seq ?_
 obtain ⟨n6, hn6⟩ : ∃ n, n = tri ys := ⟨_, rfl⟩
 rw [← ht, ← hn6] at F
 refine wp_region_lit ?_
 refine list_val F (wn rfl) rfl rfl (.slice (some ad) ys.length c2) (ex_move _ rfl _ (F.e rfl)) ?_; clear F a; intro a F
 refine list_val F (wn rfl) rfl rfl (.int .i64 ((ys.length : Nat) : Int)) (ex_len _ _ rfl 1 g1_sl_28_1 _ _ _ (F.e rfl)) ?_; clear F a; intro a F
 refine list_val F (wn rfl) rfl rfl (.int .i64 ((min ys.length 3 : Nat) : Int)) (ex_minE _ _ _ rfl .i64 ((ys.length : Nat) : Int) 3 (F.e rfl) rfl ((min ys.length 3 : Nat) : Int) (by omega)) ?_; clear F a; intro a F
 refine list_val F (wn rfl) rfl rfl (.int .i64 ((min ys.length 3 + 1 : Nat) : Int)) (ex_bin .add _ _ _ _ rfl .i64 _ _ (F.e rfl) rfl _ (b_add ((w_i64 (by omega) (by omega)).trans (by omega)))) ?_; clear F a; intro a F
 refine list_val F (wn rfl) rfl rfl (.int .i64 0) (ex_move _ rfl _ rfl) ?_; clear F a; intro a F
 refine wpList_nil ?_
 replace F : Fr 59 a [(0, .slice (some ad) ys.length c2), (1, .string (ST.str set)), (4, .string (ST.str ([] : List UInt8))), (5, .pointer (some ⟨g5, 0, none⟩)), (6, .int .u32 ((n6 : Nat) : Int)), (9, .int .i64 ((ys.length : Nat) : Int)), (10, .bool false), (12, .bool false), (14, .bool false), (40, .int .i64 ((min ys.length 3 + 1 : Nat) : Int)), (41, .int .i64 0)] := F.keep ⟨rfl, rfl, rfl, rfl, rfl, rfl, rfl, rfl, rfl, rfl, rfl, trivial⟩
 refine then_n ?_
 refine wp_block ?_
 refine wp_loopN (fun mq ar wr => ∃ (i : Nat), ∃ (acc2 : List UInt8), Fr 59 ar [(0, .slice (some ad) ys.length c2), (1, .string (ST.str set)), (4, .string (ST.str ([] : List UInt8))), (5, .pointer (some ⟨g5, 0, none⟩)), (6, .int .u32 ((n6 : Nat) : Int)), (9, .int .i64 ((ys.length : Nat) : Int)), (10, .bool false), (12, .bool false), (14, .bool false), (40, .int .i64 ((min ys.length 3 + 1 : Nat) : Int)), (41, .int .i64 ((i : Nat) : Int))] ∧ Mm w wr [] ∧ Lib.IsBuilderF 63 5 w.heap.size g5 (Lib.byteCells acc2) wr ∧ i ≤ min ys.length 3 + 1 ∧ acc2 = acc ++ (List.range i).map (fun k => L64 set (six (tri ys) k)) ∧ mq + i = (min ys.length 3 + 1)) (min ys.length 3 + 1) ?_ ?_
 ·
  exact ⟨0, acc, F.keep ⟨rfl, rfl, rfl, rfl, rfl, rfl, rfl, rfl, rfl, rfl, rfl, trivial⟩, M, O_b, (Nat.zero_le _), (by simp), (by omega)⟩
 clear F M a O_b
 rintro mq a v ⟨i, acc2, F, M, O_b, hi, hacc2, hq⟩; try clear u
 have hl2 : acc2.length = acc.length + i := by rw [hacc2]; simp
 have hgl : (enc set ys).length ≥ min ys.length 3 + 1 := by rw [hes, List.length_append, grp, List.length_map, List.length_range]; omega
 by_cases hin : i < min ys.length 3 + 1
 ·
  refine wp_seq ?_
  refine wp_region_lit ?_
  refine list_val F (wn rfl) rfl rfl (.bool true) (ex_bin .lss _ _ _ _ rfl .i64 _ _ (F.e rfl) (F.e rfl) _ (b_lss (decide_eq_true (by omega)))) ?_; clear F a; intro a F
  refine wpList_nil ?_
  replace F : Fr 59 a [(0, .slice (some ad) ys.length c2), (1, .string (ST.str set)), (4, .string (ST.str ([] : List UInt8))), (5, .pointer (some ⟨g5, 0, none⟩)), (6, .int .u32 ((n6 : Nat) : Int)), (9, .int .i64 ((ys.length : Nat) : Int)), (10, .bool false), (12, .bool false), (14, .bool false), (40, .int .i64 ((min ys.length 3 + 1 : Nat) : Int)), (41, .int .i64 ((i : Nat) : Int)), (42, .bool true)] := F.keep ⟨rfl, rfl, rfl, rfl, rfl, rfl, rfl, rfl, rfl, rfl, rfl, rfl, trivial⟩
  refine then_n ?_
  refine wp_seq ?_
  refine wp_cond_true (F.e rfl) ?_
  refine wp_skip ?_
  refine then_n ?_
  refine wp_seq ?_
  refine wp_block ?_
  refine wp_seq ?_
  refine wp_region_lit ?_
  refine list_val F (wn rfl) rfl rfl (.int .i64 ((i : Nat) : Int)) (ex_move _ rfl _ (F.e rfl)) ?_; clear F a; intro a F
  refine list_val F (wn rfl) rfl rfl (.int .i64 ((i : Nat) : Int)) (ex_assign _ rfl _ (F.e rfl)) ?_; clear F a; intro a F
  refine wpList_nil ?_
  replace F : Fr 59 a [(0, .slice (some ad) ys.length c2), (1, .string (ST.str set)), (4, .string (ST.str ([] : List UInt8))), (5, .pointer (some ⟨g5, 0, none⟩)), (6, .int .u32 ((n6 : Nat) : Int)), (7, .int .i64 ((i : Nat) : Int)), (9, .int .i64 ((ys.length : Nat) : Int)), (10, .bool false), (12, .bool false), (14, .bool false), (40, .int .i64 ((min ys.length 3 + 1 : Nat) : Int)), (41, .int .i64 ((i : Nat) : Int)), (42, .bool true)] := F.keep ⟨rfl, rfl, rfl, rfl, rfl, rfl, rfl, rfl, rfl, rfl, rfl, rfl, rfl, trivial⟩
  refine then_n ?_
  refine wp_region_lit ?_
  refine list_val F (wn rfl) rfl rfl (.string (ST.str set)) (ex_move _ rfl _ (F.e rfl)) ?_; clear F a; intro a F
  refine list_val F (wn rfl) rfl rfl (.int .u32 ((n6 : Nat) : Int)) (ex_move _ rfl _ (F.e rfl)) ?_; clear F a; intro a F
  refine list_val F (wn rfl) rfl rfl (.int .i64 ((i : Nat) : Int)) (ex_move _ rfl _ (F.e rfl)) ?_; clear F a; intro a F
  refine list_val F (wn rfl) rfl rfl (.int .i64 ((6 * i : Nat) : Int)) (ex_bin .mul _ _ _ _ rfl .i64 _ _ rfl (F.e rfl) _ (b_mul ((w_i64 (by omega) (by omega)).trans (by omega)))) ?_; clear F a; intro a F
  refine list_val F (wn rfl) rfl rfl (.int .i64 ((18 - 6 * i : Nat) : Int)) (ex_bin .sub _ _ _ _ rfl .i64 _ _ rfl (F.e rfl) _ (b_sub ((w_i64 (by omega) (by omega)).trans (by omega)))) ?_; clear F a; intro a F
  refine list_val F (wn rfl) rfl rfl (.int .u32 (((n6 / 2 ^ (18 - 6 * i)) : Nat) : Int)) (ST.ex_shrN _ _ _ _ rfl .u32 .i64 n6 (18 - 6 * i) _ (F.e rfl) (F.e rfl) rfl (by show _ ≤ 32; omega) (n6 / 2 ^ (18 - 6 * i)) rfl) ?_; clear F a; intro a F
  refine list_val F (wn rfl) rfl rfl (.int .u32 (((six n6 i) : Nat) : Int)) (ST.ex_andN _ _ _ _ rfl .u32 (n6 / 2 ^ (18 - 6 * i)) 63 (F.e rfl) rfl (Nat.lt_of_le_of_lt (Nat.div_le_self _ _) (by show _ < 4294967296; omega)) (by show _ < 4294967296; omega) (six n6 i) (and63 _) (w_u32 (Int.natCast_nonneg _) (by have h_ : six n6 i < 64 := Nat.mod_lt _ (by decide); omega))) ?_; clear F a; intro a F
  refine list_val F (wn rfl) rfl rfl (.int .u8 (((L64 set (six n6 i)).toNat : Nat) : Int)) (ST.ex_ixs 9 _ _ rfl un9 set (F.e rfl) .u32 _ (F.e rfl) (six n6 i) rfl (L64 set (six n6 i)) (L_get hs)) ?_; clear F a; intro a F
  refine list_do (wn rfl) (fun K hK => ?_)
  refine ow_call rfl rfl F 32 #[.pointer (some ⟨g5, 0, none⟩), .int .u8 (((L64 set (six n6 i)).toNat : Nat) : Int)] (ex_call 32 _ _ rfl rfl g1_ent_32 _ (map2 (F.e rfl) (F.e rfl))) (Tryd.Builder_WriteByte_k w.heap.size g5 (Lib.byteCells acc2) _ _ O_b (by rw [bl_len]; omega) M.bel.size) (fun e u hR => ?_)
  obtain ⟨he, hO, hb, hk⟩ := hR
  refine ⟨.nilIface, he, ?_⟩; clear he F a; intro a F
  refine hK _ _ ?_
  clear hK K
  replace M : Mm w u [] := mm_of_bel (M.bel.trans hb)
  clear hb hk; try clear v
  rw [bl_push] at hO
  replace O_b : Lib.IsBuilderF 63 5 w.heap.size g5 (Lib.byteCells (acc2 ++ [L64 set (six n6 i)])) u := .inr hO
  clear hO
  refine wpList_nil ?_
  replace F : Fr 59 a [(0, .slice (some ad) ys.length c2), (1, .string (ST.str set)), (4, .string (ST.str ([] : List UInt8))), (5, .pointer (some ⟨g5, 0, none⟩)), (6, .int .u32 ((n6 : Nat) : Int)), (7, .int .i64 ((i : Nat) : Int)), (9, .int .i64 ((ys.length : Nat) : Int)), (10, .bool false), (12, .bool false), (14, .bool false), (40, .int .i64 ((min ys.length 3 + 1 : Nat) : Int)), (41, .int .i64 ((i : Nat) : Int)), (42, .bool true)] := F.keep ⟨rfl, rfl, rfl, rfl, rfl, rfl, rfl, rfl, rfl, rfl, rfl, rfl, rfl, trivial⟩
  refine in_n ?_
  refine then_n ?_
  refine wp_region_lit ?_
  refine list_val F (wn rfl) rfl rfl (.int .i64 ((i + 1 : Nat) : Int)) (ex_bin .add _ _ _ _ rfl .i64 _ _ (F.e rfl) rfl _ (b_add ((w_i64 (by omega) (by omega)).trans (by omega)))) ?_; clear F a; intro a F
  refine list_val F (wn rfl) rfl rfl (.int .i64 ((i + 1 : Nat) : Int)) (ex_move _ rfl _ (F.e rfl)) ?_; clear F a; intro a F
  refine wpList_nil ?_
  replace F : Fr 59 a [(0, .slice (some ad) ys.length c2), (1, .string (ST.str set)), (4, .string (ST.str ([] : List UInt8))), (5, .pointer (some ⟨g5, 0, none⟩)), (6, .int .u32 ((n6 : Nat) : Int)), (7, .int .i64 ((i : Nat) : Int)), (9, .int .i64 ((ys.length : Nat) : Int)), (10, .bool false), (12, .bool false), (14, .bool false), (40, .int .i64 ((min ys.length 3 + 1 : Nat) : Int)), (41, .int .i64 ((i + 1 : Nat) : Int)), (42, .bool true)] := F.keep ⟨rfl, rfl, rfl, rfl, rfl, rfl, rfl, rfl, rfl, rfl, rfl, rfl, rfl, trivial⟩
  refine then_n ?_
  exact ⟨(min ys.length 3 + 1) - (i + 1), by omega, (i + 1), (acc2 ++ [L64 set (six n6 i)]), F.keep ⟨rfl, rfl, rfl, rfl, rfl, rfl, rfl, rfl, rfl, rfl, rfl, trivial⟩, (by refine M.pick' [] _ ?_ (by decide); exact trivial), O_b, (by omega), (by rw [hacc2, hn6]; exact (range_snoc _ _ _).symm), (by omega)⟩
 have hi4 : i = min ys.length 3 + 1 := by omega
 refine wp_seq ?_
 refine wp_region_lit ?_
 refine list_val F (wn rfl) rfl rfl (.bool false) (ex_bin .lss _ _ _ _ rfl .i64 _ _ (F.e rfl) (F.e rfl) _ (b_lss (decide_eq_false (by omega)))) ?_; clear F a; intro a F
 refine wpList_nil ?_
 replace F : Fr 59 a [(0, .slice (some ad) ys.length c2), (1, .string (ST.str set)), (4, .string (ST.str ([] : List UInt8))), (5, .pointer (some ⟨g5, 0, none⟩)), (6, .int .u32 ((n6 : Nat) : Int)), (9, .int .i64 ((ys.length : Nat) : Int)), (10, .bool false), (12, .bool false), (14, .bool false), (40, .int .i64 ((min ys.length 3 + 1 : Nat) : Int)), (41, .int .i64 ((i : Nat) : Int)), (42, .bool false)] := F.keep ⟨rfl, rfl, rfl, rfl, rfl, rfl, rfl, rfl, rfl, rfl, rfl, rfl, trivial⟩
 refine then_n ?_
 refine wp_seq ?_
 refine wp_cond_false (F.e rfl) ?_
 refine wp_exit ?_
 refine then_x ?_
 refine then_x ?_
 refine in_hit ?_
 refine then_n ?_
 refine wp_seq ?_
 refine wp_region_lit ?_
 refine list_val F (wn rfl) rfl rfl (.slice (some ad) ys.length c2) (ex_move _ rfl _ (F.e rfl)) ?_; clear F a; intro a F
 refine list_val F (wn rfl) rfl rfl (.slice (some ad) ys.length c2) (ex_move _ rfl _ (F.e rfl)) ?_; clear F a; intro a F
 refine list_val F (wn rfl) rfl rfl (.int .i64 ((ys.length : Nat) : Int)) (ex_len _ _ rfl 1 g1_sl_28_1 _ _ _ (F.e rfl)) ?_; clear F a; intro a F
 refine list_val F (wn rfl) rfl rfl (.int .i64 ((min ys.length 3 : Nat) : Int)) (ex_minE _ _ _ rfl .i64 ((ys.length : Nat) : Int) 3 (F.e rfl) rfl ((min ys.length 3 : Nat) : Int) (by omega)) ?_; clear F a; intro a F
 refine list_val F (wn rfl) rfl rfl (.slice (cutA 1 (some ad) (min ys.length 3) c2) (ys.length - (min ys.length 3)) (c2 - (min ys.length 3))) (ex_cutend 28 5 1 Tryd.underlying28 s5 _ _ rfl (some ad) ys.length c2 (F.e rfl) _ (F.e rfl) (min ys.length 3) rfl (by omega)) ?_; clear F a; intro a F
 refine list_val F (wn rfl) rfl rfl (.slice (cutA 1 (some ad) (min ys.length 3) c2) (ys.length - (min ys.length 3)) (c2 - (min ys.length 3))) (ex_assign _ rfl _ (F.e rfl)) ?_; clear F a; intro a F
 refine wpList_nil ?_
 replace F : Fr 59 a [(0, .slice (cutA 1 (some ad) (min ys.length 3) c2) (ys.length - (min ys.length 3)) (c2 - (min ys.length 3))), (1, .string (ST.str set)), (4, .string (ST.str ([] : List UInt8))), (5, .pointer (some ⟨g5, 0, none⟩)), (6, .int .u32 ((n6 : Nat) : Int)), (9, .int .i64 ((ys.length : Nat) : Int)), (10, .bool false), (12, .bool false), (14, .bool false), (40, .int .i64 ((min ys.length 3 + 1 : Nat) : Int)), (41, .int .i64 ((i : Nat) : Int)), (42, .bool false)] := F.keep ⟨rfl, rfl, rfl, rfl, rfl, rfl, rfl, rfl, rfl, rfl, rfl, rfl, trivial⟩
 refine then_n ?_
 refine wp_goto ?_
 refine ST.jump_g ?_
 rw [show ys.length - min ys.length 3 = (ys.drop (min ys.length 3)).length from List.length_drop.symm] at F
 exact ⟨xs.length - (r + 1), by omega, g5, (cutA 1 (some ad) (min ys.length 3) c2), (c2 - (min ys.length 3)), (ys.drop (min ys.length 3)), acc2, (r + 1), F.keep ⟨rfl, rfl, rfl, rfl, trivial⟩, (by refine M.pick' [] _ ?_ (by decide); exact trivial), O_b, (by have h_ := C_snd hC (i := (min ys.length 3)) (by omega) hcap; rwa [← List.length_drop] at h_), (by rw [List.length_drop]; omega), (by rw [← hacc, hes, hacc2, hi4, List.append_assoc]; rfl), (by rw [List.length_drop]; omega), (by omega)⟩
theorem g1_ent_21 : ent? Tryd.prog 21 = true := by kernel_rfl
set_option maxHeartbeats 1000000 in
set_option maxRecDepth 100000 in
theorem text64_any (xs : List UInt8) (A : Option Addr) (c : Nat) (w : World) (hr : ST.kB.C w A xs.length xs) (hc : xs.length ≤ c) (hmx : xs.length ≤ 1000000) :
    Calls Tryd.prog 7 #[.slice A xs.length c] w fun e w' => e = .returned (.string (ST.str (enc sUrl xs))) ∧ Below w.heap.size w w' := by
 refine calls_start Tryd.func7 rfl rfl rfl (fun a F => ?_)
 have M : Mm w w [] := Mm.nil w
 refine wp_seq ?_
 refine wp_region_lit ?_
 refine list_val F (wn rfl) rfl rfl (.string (ST.str ([] : List UInt8))) (ex_assign _ rfl _ rfl) ?_; clear F a; intro a F
 refine wpList_nil ?_
 replace F : Fr 5 a [(0, .slice A xs.length c), (2, .string (ST.str ([] : List UInt8)))] := F.keep ⟨rfl, rfl, trivial⟩
 refine then_n ?_
 refine wp_seq ?_
 refine wp_region_lit ?_
 refine list_val F (wn rfl) rfl rfl (.slice A xs.length c) (ex_move _ rfl _ (F.e rfl)) ?_; clear F a; intro a F
 refine list_do (wn rfl) (fun K hK => ?_)
 refine ow_call rfl rfl F 21 #[.slice A xs.length c, .string (ST.str sUrl)] (ex_call 21 _ _ rfl rfl g1_ent_21 _ (map2 (F.e rfl) rfl)) (text_any sUrl rfl xs _ _ _ (Kd.C_below hr M.bel) hc hmx) (fun e v hR => ?_)
 obtain ⟨he, hb⟩ := hR
 refine ⟨.string (ST.str (enc sUrl xs)), he, ?_⟩; clear he F a; intro a F
 refine hK _ _ ?_
 clear hK K
 replace M := M.below hb; clear hb; try clear w
 refine list_val F (wn rfl) rfl rfl (.string (ST.str (enc sUrl xs))) (ex_assign _ rfl _ (F.e rfl)) ?_; clear F a; intro a F
 refine wpList_nil ?_
 replace F : Fr 5 a [(0, .slice A xs.length c), (2, .string (ST.str (enc sUrl xs)))] := F.keep ⟨rfl, rfl, trivial⟩
 refine then_n ?_
 refine wp_ret ?_
 exact ret_tmp F rfl rfl ⟨rfl, M.bel⟩
end Go.Proofs.YtadaacoddfkalaaDoor
