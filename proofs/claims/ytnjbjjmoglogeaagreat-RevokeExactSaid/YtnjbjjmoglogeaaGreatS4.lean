/- The law RevokeExact of the given program answers true: its walk. Conditions: the steps are read; their numbers are of their kinds. -/
import Derived.Test.YtnjbjjmoglogeaaGreatS3
import Derived.Test.YtnjbjjmoglogeaaGreatRL
namespace Go.Proofs.YtnjbjjmoglogeaaGreat
open Go.RowKit Go.Proofs.YtnjbjjmoglogeaaGreatW.PrintWords KB WG RO BK RD
set_option linter.unusedVariables false
set_option linter.unusedSimpArgs false
set_option linter.unnecessarySimpa false
def zB16 : KB.Bs 16 := ⟨List.replicate 16 0, rfl⟩
abbrev StepT : Type := Int × Int × KB.Bs 16 × Int × List Rv
abbrev kStep : Kd StepT := Kd.iso (Kd.pair (Kd.int .i64) (Kd.pair (Kd.int .u64) (Kd.pair (kBs 16) (Kd.pair (Kd.int .i64) (Kd.slice 85 kRv))))) id
def wStep (x : StepT) : Prop := (Lit.int .i64 x.1).wf = true ∧ (Lit.int .u64 x.2.1).wf = true ∧ (∀ b ∈ x.2.2.1.1, (Lit.int .u8 b).wf = true) ∧ (Lit.int .i64 x.2.2.2.1).wf = true ∧ w57 x.2.2.2.2
theorem rdStep (W : World) : Reads Tryz.prog W 71 kStep wStep :=
  RD.reads_struct Tryz.underlying71 (show RD.ReadsF _ _ [_, _, _, _, _] 0 _ _ from (RD.readsF_cons (RD.reads_int (k := .i64) (by kernel_rfl)) rfl (by kernel_rfl) (RD.readsF_cons (RD.reads_int (k := .u64) (by kernel_rfl)) rfl (by kernel_rfl) (RD.readsF_cons (rd69 _) rfl (by kernel_rfl) (RD.readsF_cons (RD.reads_int (k := .i64) (by kernel_rfl)) rfl (by kernel_rfl) (RD.readsF_one (rd57 _) rfl (by kernel_rfl))))))) (by kernel_rfl) id id (fun _ => rfl)
def wScript (l : List StepT) : Prop := l.length * 64 ≤ 140737488351232 ∧ ∀ x ∈ l, wStep x
theorem rdScript (W : World) : Reads Tryz.prog W 22 (Kd.slice 71 kStep) wScript := RD.reads_slice (B := 64) Tryz.underlying22 (rdStep W) (by kernel_rfl) (by kernel_rfl)
theorem at_Step {w : World} {A : Option Addr} {l : List StepT} (h : kStep.C w A l.length l) (hwf : ∀ x ∈ l, wStep x) {i : Nat} (hi : i < l.length) :
    ∃ ad, A = some ad ∧ ∃ (o : St) (ks : List Rv) (B : Option Addr) (b : Nat), o.raw = (B, ks.length, b) ∧ At w (ad.add (i * 20)) o.cs ∧ kRv.C w B ks.length ks ∧ ks.length ≤ b ∧ ks.length * 40 ≤ 140737488351232 := by
  obtain ⟨ad, c, e, _, hK, hc⟩ := Kd.C_get h (0, 0, zB16, 0, []) (i : Int) (by omega) (by omega)
  have hm : l.getD (i : Int).toNat (0, 0, zB16, 0, []) ∈ l := by
    rw [show (i : Int).toNat = i from rfl, List.getD_eq_getElem?_getD, List.getElem?_eq_getElem hi]
    exact List.getElem_mem hi
  have hw := hwf _ hm
  rw [show (i : Int).toNat = i from rfl] at hK hc hw
  generalize l.getD i (0, 0, zB16, 0, []) = x at hK hw
  obtain ⟨act, g, id, ep, ks⟩ := x
  obtain ⟨c1, r1, rfl, rfl, c2, r2, rfl, rfl, c3, r3, rfl, rfl, c4, c5, rfl, rfl, ⟨B, b, rfl, hb, hB⟩⟩ := hK
  refine ⟨ad, e, ⟨act, g, bsOf id, ep, (B, ks.length, b)⟩, ks, B, b, rfl, fun j v hv => ?_, hB, hb, hw.2.2.2.2.1⟩
  rw [Addr.add_add]
  refine hc j v ?_
  rw [← hv]
  congr 1
  show _ = St.cs _
  show [Value.int .i64 act] ++ ([Value.int .u64 g] ++ (id.cs ++ ([Value.int .i64 ep] ++ [Value.slice B ks.length b]))) = _
  rw [← bsOf_cs (x := id) hw.2.2.1]
  rfl
theorem over_own {bx xc : Nat} {XA : Option Addr} {ks : List Rv} {w : World} (hO : Ow kRv 85 w bx (.slice XA (ks ++ marks).length xc) (ks ++ marks)) (hl : ks.length ≤ 900000) :
    Calls Tryz.prog 11 #[.slice XA ks.length xc] w fun e w' => e = .returned (.tuple #[]) ∧ ∃ g cells, w.heap[g]? = some (.cells cells 85 (0, 0)) ∧ bx ≤ g ∧ (Value.slice XA (ks ++ marks).length xc).ownBlock = some g ∧ w.grownBy w' (some g) := by
  have hm := marks_len ks
  obtain ⟨g, sp, rfl, _, hg, hh, hl2, hnc, hcm⟩ := Ow.open (enc := Rv.cs) (m := 19) (hl := Rv.cs_len) (h1 := Rv.cs_one) hO (by decide) (by omega)
  exact (over_any g ks.length xc _ w hh (by rw [List.size_toArray]; exact hl2) (by omega) hcm (by omega)).mono fun e w' ⟨he, hgr⟩ => ⟨he, g, _, hh, hg, rfl, hgr⟩
def farT (ts : List TypeId) (e : TypeId) : List Blk → Prop
  | [] => True
  | b :: l => (b.t ∉ ts ∧ b.t ≠ e) ∧ farT ts e l
theorem farT_get {ts : List TypeId} {e : TypeId} : ∀ {H : List Blk}, farT ts e H → ∀ (i : Nat) (b : Blk), H[i]? = some b → b.t ∉ ts ∧ b.t ≠ e
  | [], _, i, b, h => by simp at h
  | c :: l, ⟨h1, h2⟩, i, b, h => by
    cases i with
    | zero => obtain rfl : c = b := by simpa using h
              exact h1
    | succ i => exact farT_get h2 i b (by simpa using h)
theorem mm_onlyT {base : Nat} {ts : List TypeId} {x : Option Nat} {w u w0 : World} {H : List Blk} {e : TypeId} (M : Mm w0 w H) (ho : Only base ts x w u) (hb0 : w0.heap.size ≤ base) (hbs : base ≤ w.heap.size) (hx : ∀ k, x = some k → ∃ cells, w.heap[k]? = some (.cells cells e (0, 0))) (hT : farT ts e H) : Mm w0 u H :=
  mm_only M ho hb0 hbs (fun i b hb => ⟨(farT_get hT i b hb).1, fun h => by
    obtain ⟨cells, hc⟩ := hx _ h
    rw [M.blk i b hb] at hc
    injection hc with hc
    injection hc with _ hc
    exact (farT_get hT i b hb).2 hc⟩)
theorem build50_0 (w : World) : (Instr.build 50 #[]).run Tryz.prog w = .ok (.agg (bkC (.slice none 0 0) (.slice none 0 0) 0 0 0 0).toArray) w := by kernel_rfl
theorem build66_0 (w : World) : (Instr.build 66 #[]).run Tryz.prog w = .ok (.agg (seC (.slice none 0 0)).toArray) w := by kernel_rfl
theorem st_new {base gb gs : Nat} {w : World} (h1 : w.heap[gb]? = some (.cells (bkC (.slice none 0 0) (.slice none 0 0) 0 0 0 0).toArray 50 (0, 0))) (h2 : w.heap[gs]? = some (.cells (seC (.slice none 0 0)).toArray 66 (0, 0))) (hb : base ≤ gb) (hs : base ≤ gs) (hw : base ≤ w.heap.size) : Sb (fun _ => 0) base base gb gs 0 none 0 [] w where
  bk := ⟨none, 0, [], none, 0, [], 0, h1, hb, Ow.nil kS 57 w base, Ow.nil kN 3 w base, ⟨rfl, fun i s k h => by simp at h⟩, ⟨fun i s h => by simp at h, fun k h => by simp at h, Nat.le_refl _, Nat.le_refl _, Nat.zero_le _⟩⟩
  seat := ⟨none, 0, [], h2, Ow.nil kRv 85 w base, fun k h => by cases h⟩
  ring := ⟨Ow.nil kRv 85 w base, fun k h => by cases h⟩
  fresh := fun _ _ => rfl
  lo := hs
  lim := ⟨Nat.le_refl _, hw⟩
theorem look_st {own : Nat → Nat} {base lim gb gs tn : Nat} {A : Option Addr} {c : Nat} {ks : List Rv} {w : World} (S : Sb own base lim gb gs tn A c ks w) (htn : tn ≤ 10000000) :
    Calls Tryz.prog 14 #[.pointer (some ⟨gb, 0, none⟩)] w fun e w' => e = .returned (.bool true) ∧ Below base w w' := by
  obtain ⟨KA, Kc, rows, IA, Ic, ms, us, B⟩ := S.bk
  exact (look_any own base gb KA Kc rows IA Ic ms 0 tn 0 us w B htn).mono fun e w' ⟨he, ⟨_, _, _, _, _, _, _, _, _, _, _, hb⟩⟩ => ⟨he, hb⟩
theorem s4_sl_22_20 : sl? Tryz.prog 22 20 = true := by kernel_rfl
theorem s4_fa_71_0_0 : fa? Tryz.prog 71 0 0 = true := by kernel_rfl
theorem s4_one_3 : one? Tryz.prog 3 = true := by kernel_rfl
theorem s4_fa_71_4_19 : fa? Tryz.prog 71 4 19 = true := by kernel_rfl
theorem s4_one_57 : one? Tryz.prog 57 = true := by kernel_rfl
theorem s4_ent_4 : ent? Tryz.prog 4 = true := by kernel_rfl
theorem s4_sl_57_19 : sl? Tryz.prog 57 19 = true := by kernel_rfl
theorem s4_ent_5 : ent? Tryz.prog 5 = true := by kernel_rfl
theorem s4_ent_6 : ent? Tryz.prog 6 = true := by kernel_rfl
theorem s4_ent_7 : ent? Tryz.prog 7 = true := by kernel_rfl
theorem s4_ent_8 : ent? Tryz.prog 8 = true := by kernel_rfl
theorem s4_ent_9 : ent? Tryz.prog 9 = true := by kernel_rfl
theorem s4_ent_10 : ent? Tryz.prog 10 = true := by kernel_rfl
theorem s4_ent_11 : ent? Tryz.prog 11 = true := by kernel_rfl
theorem s4_ent_12 : ent? Tryz.prog 12 = true := by kernel_rfl
theorem s4_follows_mixedOrders : Tryz.prog.follows .mixedOrders = true := by kernel_rfl
theorem s4_ent_13 : ent? Tryz.prog 13 = true := by kernel_rfl
theorem s4_ent_14 : ent? Tryz.prog 14 = true := by kernel_rfl
theorem s4_ent_15 : ent? Tryz.prog 15 = true := by kernel_rfl
set_option maxHeartbeats 20000000 in
set_option maxRecDepth 100000 in
theorem exact_any (l : List StepT) (A : Option Addr) (c : Nat) (w : World) (hr : kStep.C w A l.length l) (hwf : ∀ x ∈ l, wStep x) (hll : l.length ≤ 4611686018427387904) :
    Calls Tryz.prog 3 #[.slice A l.length c] w fun e w' => e = .returned (.bool true) ∧ Below w.heap.size w w' := by
 refine calls_start Tryz.func3 rfl rfl rfl (fun a F => ?_)
 have M : Mm w w [] := Mm.nil w
 refine wp_seq ?_
 refine wp_region_lit ?_
 refine list_val F (wn rfl) rfl rfl (.bool false) (ex_assign _ rfl _ rfl) ?_; clear F a; intro a F
 refine wpList_nil ?_
 refine then_n ?_
 refine wp_seq ?_
 refine wp_region_lit ?_
 refine list_val F (wn rfl) rfl rfl (.agg ((bkC (.slice none 0 0) (.slice none 0 0) 0 0 0 0).toArray)) (ex_build 50 _ rfl #[] parts0 (.agg ((bkC (.slice none 0 0) (.slice none 0 0) 0 0 0 0).toArray)) (build50_0 _)) ?_; clear F a; intro a F
 refine list_do (wn rfl) (fun K hK => ?_)
 refine ow_box F M rfl rfl 50 _ rfl _ (F.e rfl) ((bkC (.slice none 0 0) (.slice none 0 0) 0 0 0 0).toArray) rfl ?_
 clear F M a; intro a g13 v F M hb hg
 refine hK _ _ ?_
 clear hK K
 clear hb hg; try clear w
 refine list_val F (wn rfl) rfl rfl (.pointer (some ⟨g13, 0, none⟩)) (ex_assign _ rfl _ (F.e rfl)) ?_; clear F a; intro a F
 refine wpList_nil ?_
 refine then_n ?_
 refine wp_seq ?_
 refine wp_region_lit ?_
 refine list_val F (wn rfl) rfl rfl (.agg ((seC (.slice none 0 0)).toArray)) (ex_build 66 _ rfl #[] parts0 (.agg ((seC (.slice none 0 0)).toArray)) (build66_0 _)) ?_; clear F a; intro a F
 refine list_do (wn rfl) (fun K hK => ?_)
 refine ow_box F M rfl rfl 66 _ rfl _ (F.e rfl) ((seC (.slice none 0 0)).toArray) rfl ?_
 clear F M a; intro a g15 u F M hb hg
 refine hK _ _ ?_
 clear hK K
 clear hb hg; try clear v
 refine list_val F (wn rfl) rfl rfl (.pointer (some ⟨g15, 0, none⟩)) (ex_assign _ rfl _ (F.e rfl)) ?_; clear F a; intro a F
 refine wpList_nil ?_
 refine then_n ?_
 refine wp_seq ?_
 refine wp_region_lit ?_
 refine list_val F (wn rfl) rfl rfl (.slice none 0 0) (ex_assign _ rfl _ rfl) ?_; clear F a; intro a F
 refine wpList_nil ?_
 refine then_n ?_
 refine wp_seq ?_
 refine wp_seq ?_
 refine wp_region_lit ?_
 refine list_val F (wn rfl) rfl rfl (.int .i64 0) (ex_assign _ rfl _ rfl) ?_; clear F a; intro a F
 refine wpList_nil ?_
 refine then_n ?_
 refine wp_block ?_
 have S_ := st_new (base := w.heap.size) (M.blk 1 _ rfl) (M.blk 0 _ rfl) (M.lo 1 _ rfl) (M.lo 0 _ rfl) M.bel.size
 refine wp_loopN (fun mq ar wr => ∃ (i : Nat), ∃ (own : Nat → Nat), ∃ (lim : Nat), ∃ (tn : Nat), ∃ (RA : Option Addr), ∃ (rc : Nat), ∃ (rks : List Rv), Fr 100 ar [(0, .slice A l.length c), (2, .bool false), (3, .pointer (some ⟨g13, 0, none⟩)), (4, .pointer (some ⟨g15, 0, none⟩)), (5, .slice RA rks.length rc), (6, .int .i64 i)] ∧ Mm w wr [] ∧ Sb own w.heap.size lim g13 g15 tn RA rc rks wr ∧ i ≤ l.length ∧ i ≤ 150 ∧ tn ≤ 2 * i ∧ rks.length ≤ 300 + i ∧ mq + i = l.length) l.length ?_ ?_
 ·
  exact ⟨0, _, _, 0, none, 0, [], F.keep ⟨rfl, rfl, rfl, rfl, rfl, rfl, trivial⟩, (by refine M.pick' [] _ ?_ (by decide); exact trivial), S_, (Nat.zero_le _), (Nat.zero_le _), (Nat.zero_le _), (Nat.zero_le _), (by omega)⟩
 clear F M a
 rintro mq a v ⟨i, own, lim, tn, RA, rc, rks, F, M, S_, hi, hi2, htn, hrl, hq⟩; try clear u
 by_cases h1 : i < l.length
 ·
  by_cases h2 : i < 150
  ·
   obtain ⟨adt, rfl, o, ks, B, b, hraw, zi, hB, hBb, hkl⟩ := at_Step hr hwf h1
   have hlimw := S_.lim.1
   refine wp_seq ?_
   refine wp_seq ?_
   refine wp_region_lit ?_
   refine list_val F (wn rfl) rfl rfl (.int .i64 i) (ex_move _ rfl _ (F.e rfl)) ?_; clear F a; intro a F
   refine list_val F (wn rfl) rfl rfl (.slice (some adt) l.length c) (ex_move _ rfl _ (F.e rfl)) ?_; clear F a; intro a F
   refine list_val F (wn rfl) rfl rfl (.int .i64 ((l.length : Nat) : Int)) (ex_len _ _ rfl 20 s4_sl_22_20 _ _ _ (F.e rfl)) ?_; clear F a; intro a F
   refine list_val F (wn rfl) rfl rfl (.bool true) (ex_bin .lss _ _ _ _ rfl .i64 _ _ (F.e rfl) (F.e rfl) _ (b_lss (decide_eq_true (by omega)))) ?_; clear F a; intro a F
   refine list_val F (wn rfl) rfl rfl (.bool true) (ex_move _ rfl _ (F.e rfl)) ?_; clear F a; intro a F
   refine list_val F (F.wants 20 true rfl (by kernel_rfl) rfl true rfl) rfl rfl (.int .i64 i) (ex_move _ rfl _ (F.e rfl)) ?_; clear F a; intro a F
   refine list_val F (F.wants 20 true rfl (by kernel_rfl) rfl true rfl) rfl rfl (.bool true) (ex_bin .lss _ _ _ _ rfl .i64 _ _ (F.e rfl) rfl _ (b_lss (decide_eq_true (by omega)))) ?_; clear F a; intro a F
   refine list_val F (wn rfl) rfl rfl (.bool true) (ex_pick_t _ _ _ rfl (F.e rfl) _ (F.e rfl)) ?_; clear F a; intro a F
   refine wpList_nil ?_
   refine then_n ?_
   refine wp_cond_true (F.e rfl) ?_
   refine wp_skip ?_
   refine then_n ?_
   refine wp_seq ?_
   refine wp_block ?_
   refine wp_seq ?_
   refine wp_region_lit ?_
   refine list_val F (wn rfl) rfl rfl (.slice (some adt) l.length c) (ex_move _ rfl _ (F.e rfl)) ?_; clear F a; intro a F
   refine list_val F (wn rfl) rfl rfl (.int .i64 i) (ex_move _ rfl _ (F.e rfl)) ?_; clear F a; intro a F
   refine list_val F (wn rfl) rfl rfl (.pointer (some (adt.add (i * 20)))) (ex_ix _ _ _ rfl 20 s4_sl_22_20 adt _ _ (F.e rfl) .i64 _ (F.e rfl) i rfl (by omega) (adt.add (i * 20)) rfl) ?_; clear F a; intro a F
   refine list_val F (wn rfl) rfl rfl (.agg o.arr) (ex_load _ _ rfl _ (F.e rfl) _ (lrow71 o ((zi.below M.bel)))) ?_; clear F a; intro a F
   refine list_do (wn rfl) (fun K hK => ?_)
   refine ow_alloc F M rfl rfl 71 rfl (.agg zSt.arr) zero71 zSt.arr rfl ?_
   clear F M a; intro a g7 u F M hb hg
   refine hK _ _ ?_
   clear hK K
   replace S_ := S_.below hb
   clear hb hg; try clear v
   refine list_do (wn rfl) (fun K hK => ?_)
   refine ow_put F M rfl 71 _ _ rfl 0 _ zSt.arr _ rfl (F.e rfl) o.arr (F.e rfl) (sz71 _) (by simp only [St.arr_size]) (St.arr_one _) ?_
   clear F a; have Mo := M; clear M; intro a v F M hgr
   refine hK _ _ ?_
   clear hK K
   replace S_ := S_.grown (Mo.blk 0 _ rfl) (by show (71 : Nat) ≠ 50 ∧ (71 : Nat) ≠ 57 ∧ (71 : Nat) ≠ 3 ∧ (71 : Nat) ≠ 66 ∧ (71 : Nat) ≠ 85; decide) hgr
   clear Mo hgr; try clear u
   replace M : Mm w v [⟨g7, o.arr, 71⟩] := M
   refine wpList_nil ?_
   refine then_n ?_
   refine wp_seq ?_
   refine wp_seq ?_
   by_cases hr4 : o.do_ = 4
   ·
    refine wp_region_lit ?_
    refine list_val F (wn rfl) rfl rfl (.pointer (some ⟨g7, 0, none⟩)) (ex_fa _ _ _ rfl _ (F.e rfl) 0 s4_fa_71_0_0 ⟨g7, 0, none⟩ rfl) ?_; clear F a; intro a F
    refine list_val F (wn rfl) rfl rfl (.int .i64 o.do_) (ex_load _ _ rfl _ (F.e rfl) _ (lv1 s4_one_3 (M.cell (i := 0) rfl (j := 0) (St.arr_0 _)))) ?_; clear F a; intro a F
    refine list_val F (wn rfl) rfl rfl (.bool true) (ex_bin .eql _ _ _ _ rfl .i64 _ _ (F.e rfl) rfl _ (b_eql (by rw [hr4]; rfl))) ?_; clear F a; intro a F
    refine wpList_nil ?_
    refine then_n ?_
    refine wp_cond_true (F.e rfl) ?_
    refine wp_seq ?_
    refine wp_region_lit ?_
    refine list_val F (wn rfl) rfl rfl (.pointer (some ⟨g7, 19, none⟩)) (ex_fa _ _ _ rfl _ (F.e rfl) 19 s4_fa_71_4_19 ⟨g7, 19, none⟩ rfl) ?_; clear F a; intro a F
    refine list_val F (wn rfl) rfl rfl (.slice B ks.length b) (ex_load _ _ rfl _ (F.e rfl) _ (lv1 s4_one_57 (M.cell (i := 0) rfl (j := 19) (by rw [St.arr_19, hraw])))) ?_; clear F a; intro a F
    refine list_do (wn rfl) (fun K hK => ?_)
    obtain ⟨bk, hbk_⟩ : ∃ b, b = v.heap.size := ⟨_, rfl⟩
    have hlk : lim ≤ bk := by rw [hbk_]; exact S_.lim.2
    refine ow_call rfl rfl F 4 #[.slice B ks.length b] (ex_call 4 _ _ rfl rfl s4_ent_4 _ (map1 (F.e rfl))) (copy_any ks B b _ (Kd.C_below hB M.bel) hkl) (fun e u hR => ?_)
    obtain ⟨kA, kc, he, O_k, hb⟩ := hR
    replace O_k : Ow kRv 85 u bk (.slice kA ks.length kc) ks := by rw [hbk_]; exact O_k
    clear hbk_
    refine ⟨.slice kA ks.length kc, he, ?_⟩; clear he F a; intro a F
    refine hK _ _ ?_
    clear hK K
    replace S_ := S_.below hb
    replace M := M.below hb; clear hb; try clear v
    refine list_val F (wn rfl) rfl rfl (.slice kA ks.length kc) (ex_assign _ rfl _ (F.e rfl)) ?_; clear F a; intro a F
    refine wpList_nil ?_
    refine then_n ?_
    refine wp_seq ?_
    by_cases hlong : 300 < ks.length
    ·
     refine wp_region_lit ?_
     refine list_val F (wn rfl) rfl rfl (.slice kA ks.length kc) (ex_move _ rfl _ (F.e rfl)) ?_; clear F a; intro a F
     refine list_val F (wn rfl) rfl rfl (.int .i64 ((ks.length : Nat) : Int)) (ex_len _ _ rfl 19 s4_sl_57_19 _ _ _ (F.e rfl)) ?_; clear F a; intro a F
     refine list_val F (wn rfl) rfl rfl (.bool true) (ex_bin .gtr _ _ _ _ rfl .i64 _ _ (F.e rfl) rfl _ (b_gtr (decide_eq_true (by omega)))) ?_; clear F a; intro a F
     refine wpList_nil ?_
     refine then_n ?_
     refine wp_cond_true (F.e rfl) ?_
     refine wp_region_lit ?_
     refine list_val F (wn rfl) rfl rfl (.slice kA ks.length kc) (ex_move _ rfl _ (F.e rfl)) ?_; clear F a; intro a F
     refine list_val F (wn rfl) rfl rfl (.slice kA ((ks.take 300).length) kc) (ex_cutto 57 85 19 Tryz.underlying57 s85 _ _ rfl kA ks.length kc (F.e rfl) _ rfl ((ks.take 300).length) (by rw [List.length_take]; omega) (by have h_ := (Ow.rd O_k).2.2; rw [List.length_take]; omega)) ?_; clear F a; intro a F
     refine list_val F (wn rfl) rfl rfl (.slice kA ((ks.take 300).length) kc) (ex_assign _ rfl _ (F.e rfl)) ?_; clear F a; intro a F
     refine wpList_nil ?_
     refine then_n ?_
     refine wp_seq ?_
     refine wp_seq ?_
     replace O_k := Ow_cutn O_k (k := 300) (by omega)
     have hql : (ks.take 300).length ≤ 300 := by rw [List.length_take]; omega
     replace S_ := S_.setr O_k (Nat.le_trans S_.lim.1 hlk) (fun k hk => ⟨S_.fresh k (by have h_ := (Ow_lt O_k hk).1; omega), (Ow_lt O_k hk).2⟩) hlk S_.lim.2 (Nat.le_refl _)
     obtain ⟨lk, hlk2⟩ : ∃ l, l = u.heap.size := ⟨_, rfl⟩
     rw [← hlk2] at S_; clear hlk2 O_k
     refine wp_region_lit ?_
     refine list_val F (wn rfl) rfl rfl (.slice kA ((ks.take 300).length) kc) (ex_move _ rfl _ (F.e rfl)) ?_; clear F a; intro a F
     refine list_val F (wn rfl) rfl rfl (.agg o.arr) (ex_load _ _ rfl _ (F.e rfl) _ (lrow71 o (M.at (i := 0) rfl))) ?_; clear F a; intro a F
     refine list_do (wn rfl) (fun K hK => ?_)
     refine ow_call rfl rfl F 5 #[.slice kA ((ks.take 300).length) kc, .agg o.arr] (ex_call 5 _ _ rfl rfl s4_ent_5 _ (map2 (F.e rfl) (F.e rfl))) (asks_any (ks.take 300) kA kc o _ S_.rd S_.rc (by omega)) (fun e v hR => ?_)
     obtain ⟨he, hb⟩ := hR
     refine ⟨.bool true, he, ?_⟩; clear he F a; intro a F
     refine hK _ _ ?_
     clear hK K
     replace S_ := S_.below hb
     replace M := M.below hb; clear hb; try clear u
     refine list_val F (wn rfl) rfl rfl (.bool false) (ex_not _ _ rfl _ (F.e rfl) _ rfl) ?_; clear F a; intro a F
     refine wpList_nil ?_
     refine then_n ?_
     refine wp_cond_false (F.e rfl) ?_
     refine wp_skip ?_
     refine then_n ?_
     refine wp_seq ?_
     refine wp_seq ?_
     refine wp_region_lit ?_
     refine list_val F (wn rfl) rfl rfl (.pointer (some ⟨g7, 0, none⟩)) (ex_fa _ _ _ rfl _ (F.e rfl) 0 s4_fa_71_0_0 ⟨g7, 0, none⟩ rfl) ?_; clear F a; intro a F
     refine list_val F (wn rfl) rfl rfl (.int .i64 o.do_) (ex_load _ _ rfl _ (F.e rfl) _ (lv1 s4_one_3 (M.cell (i := 0) rfl (j := 0) (St.arr_0 _)))) ?_; clear F a; intro a F
     refine list_val F (wn rfl) rfl rfl (.bool false) (ex_bin .lss _ _ _ _ rfl .i64 _ _ (F.e rfl) rfl _ (b_lss (decide_eq_false (by omega)))) ?_; clear F a; intro a F
     refine list_val F (wn rfl) rfl rfl (.bool false) (ex_move _ rfl _ (F.e rfl)) ?_; clear F a; intro a F
     refine list_val F (F.wants 48 false rfl (by kernel_rfl) rfl true rfl) rfl rfl (.pointer (some ⟨g7, 0, none⟩)) (ex_fa _ _ _ rfl _ (F.e rfl) 0 s4_fa_71_0_0 ⟨g7, 0, none⟩ rfl) ?_; clear F a; intro a F
     refine list_val F (F.wants 48 false rfl (by kernel_rfl) rfl true rfl) rfl rfl (.int .i64 o.do_) (ex_load _ _ rfl _ (F.e rfl) _ (lv1 s4_one_3 (M.cell (i := 0) rfl (j := 0) (St.arr_0 _)))) ?_; clear F a; intro a F
     refine list_val F (F.wants 48 false rfl (by kernel_rfl) rfl true rfl) rfl rfl (.bool true) (ex_bin .gtr _ _ _ _ rfl .i64 _ _ (F.e rfl) rfl _ (b_gtr (decide_eq_true (by omega)))) ?_; clear F a; intro a F
     refine list_val F (wn rfl) rfl rfl (.bool true) (ex_pick_f _ _ _ rfl (F.e rfl) _ (F.e rfl)) ?_; clear F a; intro a F
     refine wpList_nil ?_
     refine then_n ?_
     refine wp_cond_true (F.e rfl) ?_
     refine wp_exit ?_
     refine then_x ?_
     refine in_hit ?_
     refine then_n ?_
     refine wp_region_lit ?_
     refine list_val F (wn rfl) rfl rfl (.int .i64 i) (ex_move _ rfl _ (F.e rfl)) ?_; clear F a; intro a F
     refine list_val F (wn rfl) rfl rfl (.int .i64 (i + 1)) (ex_bin .add _ _ _ _ rfl .i64 _ _ (F.e rfl) rfl _ (b_add (w_i64 (by omega) (by omega)))) ?_; clear F a; intro a F
     refine list_val F (wn rfl) rfl rfl (.int .i64 (i + 1)) (ex_assign _ rfl _ (F.e rfl)) ?_; clear F a; intro a F
     refine wpList_nil ?_
     refine then_n ?_
     exact ⟨l.length - (i + 1), by omega, (i + 1), own, lk, tn, kA, kc, (ks.take 300), F.keep ⟨rfl, rfl, rfl, rfl, rfl, rfl, trivial⟩, (by refine M.pick' [] _ ?_ (by decide); exact trivial), S_, (by omega), (by omega), (by omega), (by omega), (by omega)⟩
    refine wp_region_lit ?_
    refine list_val F (wn rfl) rfl rfl (.slice kA ks.length kc) (ex_move _ rfl _ (F.e rfl)) ?_; clear F a; intro a F
    refine list_val F (wn rfl) rfl rfl (.int .i64 ((ks.length : Nat) : Int)) (ex_len _ _ rfl 19 s4_sl_57_19 _ _ _ (F.e rfl)) ?_; clear F a; intro a F
    refine list_val F (wn rfl) rfl rfl (.bool false) (ex_bin .gtr _ _ _ _ rfl .i64 _ _ (F.e rfl) rfl _ (b_gtr (decide_eq_false (by omega)))) ?_; clear F a; intro a F
    refine wpList_nil ?_
    refine then_n ?_
    refine wp_cond_false (F.e rfl) ?_
    refine wp_skip ?_
    refine then_n ?_
    refine wp_seq ?_
    refine wp_seq ?_
    replace S_ := S_.setr O_k (Nat.le_trans S_.lim.1 hlk) (fun k hk => ⟨S_.fresh k (by have h_ := (Ow_lt O_k hk).1; omega), (Ow_lt O_k hk).2⟩) hlk S_.lim.2 (Nat.le_refl _)
    obtain ⟨lk, hlk2⟩ : ∃ l, l = u.heap.size := ⟨_, rfl⟩
    rw [← hlk2] at S_; clear hlk2 O_k
    refine wp_region_lit ?_
    refine list_val F (wn rfl) rfl rfl (.slice kA ks.length kc) (ex_move _ rfl _ (F.e rfl)) ?_; clear F a; intro a F
    refine list_val F (wn rfl) rfl rfl (.agg o.arr) (ex_load _ _ rfl _ (F.e rfl) _ (lrow71 o (M.at (i := 0) rfl))) ?_; clear F a; intro a F
    refine list_do (wn rfl) (fun K hK => ?_)
    refine ow_call rfl rfl F 5 #[.slice kA ks.length kc, .agg o.arr] (ex_call 5 _ _ rfl rfl s4_ent_5 _ (map2 (F.e rfl) (F.e rfl))) (asks_any ks kA kc o _ S_.rd S_.rc (by omega)) (fun e v hR => ?_)
    obtain ⟨he, hb⟩ := hR
    refine ⟨.bool true, he, ?_⟩; clear he F a; intro a F
    refine hK _ _ ?_
    clear hK K
    replace S_ := S_.below hb
    replace M := M.below hb; clear hb; try clear u
    refine list_val F (wn rfl) rfl rfl (.bool false) (ex_not _ _ rfl _ (F.e rfl) _ rfl) ?_; clear F a; intro a F
    refine wpList_nil ?_
    refine then_n ?_
    refine wp_cond_false (F.e rfl) ?_
    refine wp_skip ?_
    refine then_n ?_
    refine wp_seq ?_
    refine wp_seq ?_
    refine wp_region_lit ?_
    refine list_val F (wn rfl) rfl rfl (.pointer (some ⟨g7, 0, none⟩)) (ex_fa _ _ _ rfl _ (F.e rfl) 0 s4_fa_71_0_0 ⟨g7, 0, none⟩ rfl) ?_; clear F a; intro a F
    refine list_val F (wn rfl) rfl rfl (.int .i64 o.do_) (ex_load _ _ rfl _ (F.e rfl) _ (lv1 s4_one_3 (M.cell (i := 0) rfl (j := 0) (St.arr_0 _)))) ?_; clear F a; intro a F
    refine list_val F (wn rfl) rfl rfl (.bool false) (ex_bin .lss _ _ _ _ rfl .i64 _ _ (F.e rfl) rfl _ (b_lss (decide_eq_false (by omega)))) ?_; clear F a; intro a F
    refine list_val F (wn rfl) rfl rfl (.bool false) (ex_move _ rfl _ (F.e rfl)) ?_; clear F a; intro a F
    refine list_val F (F.wants 48 false rfl (by kernel_rfl) rfl true rfl) rfl rfl (.pointer (some ⟨g7, 0, none⟩)) (ex_fa _ _ _ rfl _ (F.e rfl) 0 s4_fa_71_0_0 ⟨g7, 0, none⟩ rfl) ?_; clear F a; intro a F
    refine list_val F (F.wants 48 false rfl (by kernel_rfl) rfl true rfl) rfl rfl (.int .i64 o.do_) (ex_load _ _ rfl _ (F.e rfl) _ (lv1 s4_one_3 (M.cell (i := 0) rfl (j := 0) (St.arr_0 _)))) ?_; clear F a; intro a F
    refine list_val F (F.wants 48 false rfl (by kernel_rfl) rfl true rfl) rfl rfl (.bool true) (ex_bin .gtr _ _ _ _ rfl .i64 _ _ (F.e rfl) rfl _ (b_gtr (decide_eq_true (by omega)))) ?_; clear F a; intro a F
    refine list_val F (wn rfl) rfl rfl (.bool true) (ex_pick_f _ _ _ rfl (F.e rfl) _ (F.e rfl)) ?_; clear F a; intro a F
    refine wpList_nil ?_
    refine then_n ?_
    refine wp_cond_true (F.e rfl) ?_
    refine wp_exit ?_
    refine then_x ?_
    refine in_hit ?_
    refine then_n ?_
    refine wp_region_lit ?_
    refine list_val F (wn rfl) rfl rfl (.int .i64 i) (ex_move _ rfl _ (F.e rfl)) ?_; clear F a; intro a F
    refine list_val F (wn rfl) rfl rfl (.int .i64 (i + 1)) (ex_bin .add _ _ _ _ rfl .i64 _ _ (F.e rfl) rfl _ (b_add (w_i64 (by omega) (by omega)))) ?_; clear F a; intro a F
    refine list_val F (wn rfl) rfl rfl (.int .i64 (i + 1)) (ex_assign _ rfl _ (F.e rfl)) ?_; clear F a; intro a F
    refine wpList_nil ?_
    replace F : Fr 100 a [(0, .slice (some adt) l.length c), (2, .bool false), (3, .pointer (some ⟨g13, 0, none⟩)), (4, .pointer (some ⟨g15, 0, none⟩)), (5, .slice kA ks.length kc), (6, .int .i64 (i + 1)), (7, .pointer (some ⟨g7, 0, none⟩)), (23, .bool true), (32, .bool true), (38, .bool false), (44, .bool false), (52, .bool true)] := F.keep ⟨rfl, rfl, rfl, rfl, rfl, rfl, rfl, rfl, rfl, rfl, rfl, rfl, trivial⟩
    refine then_n ?_
    exact ⟨l.length - (i + 1), by omega, (i + 1), own, lk, tn, kA, kc, ks, F.keep ⟨rfl, rfl, rfl, rfl, rfl, rfl, trivial⟩, (by refine M.pick' [] _ ?_ (by decide); exact trivial), S_, (by omega), (by omega), (by omega), (by omega), (by omega)⟩
   refine wp_region_lit ?_
   refine list_val F (wn rfl) rfl rfl (.pointer (some ⟨g7, 0, none⟩)) (ex_fa _ _ _ rfl _ (F.e rfl) 0 s4_fa_71_0_0 ⟨g7, 0, none⟩ rfl) ?_; clear F a; intro a F
   refine list_val F (wn rfl) rfl rfl (.int .i64 o.do_) (ex_load _ _ rfl _ (F.e rfl) _ (lv1 s4_one_3 (M.cell (i := 0) rfl (j := 0) (St.arr_0 _)))) ?_; clear F a; intro a F
   refine list_val F (wn rfl) rfl rfl (.bool false) (ex_bin .eql _ _ _ _ rfl .i64 _ _ (F.e rfl) rfl _ (b_eql (beq_eq_false_iff_ne.2 hr4))) ?_; clear F a; intro a F
   refine wpList_nil ?_
   refine then_n ?_
   refine wp_cond_false (F.e rfl) ?_
   refine wp_skip ?_
   refine then_n ?_
   refine wp_seq ?_
   refine wp_seq ?_
   refine wp_region_lit ?_
   refine list_val F (wn rfl) rfl rfl (.slice RA rks.length rc) (ex_move _ rfl _ (F.e rfl)) ?_; clear F a; intro a F
   refine list_val F (wn rfl) rfl rfl (.agg o.arr) (ex_load _ _ rfl _ (F.e rfl) _ (lrow71 o (M.at (i := 0) rfl))) ?_; clear F a; intro a F
   refine list_do (wn rfl) (fun K hK => ?_)
   refine ow_call rfl rfl F 5 #[.slice RA rks.length rc, .agg o.arr] (ex_call 5 _ _ rfl rfl s4_ent_5 _ (map2 (F.e rfl) (F.e rfl))) (asks_any rks RA rc o _ S_.rd S_.rc (by omega)) (fun e u hR => ?_)
   obtain ⟨he, hb⟩ := hR
   refine ⟨.bool true, he, ?_⟩; clear he F a; intro a F
   refine hK _ _ ?_
   clear hK K
   replace S_ := S_.below hb
   replace M := M.below hb; clear hb; try clear v
   refine list_val F (wn rfl) rfl rfl (.bool false) (ex_not _ _ rfl _ (F.e rfl) _ rfl) ?_; clear F a; intro a F
   refine wpList_nil ?_
   refine then_n ?_
   refine wp_cond_false (F.e rfl) ?_
   refine wp_skip ?_
   refine then_n ?_
   refine wp_seq ?_
   refine wp_seq ?_
   by_cases hlo : o.do_ < 1
   ·
    refine wp_region_lit ?_
    refine list_val F (wn rfl) rfl rfl (.pointer (some ⟨g7, 0, none⟩)) (ex_fa _ _ _ rfl _ (F.e rfl) 0 s4_fa_71_0_0 ⟨g7, 0, none⟩ rfl) ?_; clear F a; intro a F
    refine list_val F (wn rfl) rfl rfl (.int .i64 o.do_) (ex_load _ _ rfl _ (F.e rfl) _ (lv1 s4_one_3 (M.cell (i := 0) rfl (j := 0) (St.arr_0 _)))) ?_; clear F a; intro a F
    refine list_val F (wn rfl) rfl rfl (.bool true) (ex_bin .lss _ _ _ _ rfl .i64 _ _ (F.e rfl) rfl _ (b_lss (decide_eq_true (by omega)))) ?_; clear F a; intro a F
    refine list_val F (wn rfl) rfl rfl (.bool true) (ex_move _ rfl _ (F.e rfl)) ?_; clear F a; intro a F
    refine list_skip F (F.wants 48 true rfl (by kernel_rfl) rfl false rfl) rfl rfl ?_; clear F a; intro a F
    refine list_skip F (F.wants 48 true rfl (by kernel_rfl) rfl false rfl) rfl rfl ?_; clear F a; intro a F
    refine list_skip F (F.wants 48 true rfl (by kernel_rfl) rfl false rfl) rfl rfl ?_; clear F a; intro a F
    refine list_val F (wn rfl) rfl rfl (.bool true) (ex_pick_t _ _ _ rfl (F.e rfl) _ rfl) ?_; clear F a; intro a F
    refine wpList_nil ?_
    refine then_n ?_
    refine wp_cond_true (F.e rfl) ?_
    refine wp_exit ?_
    refine then_x ?_
    refine in_hit ?_
    refine then_n ?_
    refine wp_region_lit ?_
    refine list_val F (wn rfl) rfl rfl (.int .i64 i) (ex_move _ rfl _ (F.e rfl)) ?_; clear F a; intro a F
    refine list_val F (wn rfl) rfl rfl (.int .i64 (i + 1)) (ex_bin .add _ _ _ _ rfl .i64 _ _ (F.e rfl) rfl _ (b_add (w_i64 (by omega) (by omega)))) ?_; clear F a; intro a F
    refine list_val F (wn rfl) rfl rfl (.int .i64 (i + 1)) (ex_assign _ rfl _ (F.e rfl)) ?_; clear F a; intro a F
    refine wpList_nil ?_
    refine then_n ?_
    exact ⟨l.length - (i + 1), by omega, (i + 1), own, lim, tn, RA, rc, rks, F.keep ⟨rfl, rfl, rfl, rfl, rfl, rfl, trivial⟩, (by refine M.pick' [] _ ?_ (by decide); exact trivial), S_, (by omega), (by omega), (by omega), (by omega), (by omega)⟩
   by_cases hhi : 3 < o.do_
   ·
    refine wp_region_lit ?_
    refine list_val F (wn rfl) rfl rfl (.pointer (some ⟨g7, 0, none⟩)) (ex_fa _ _ _ rfl _ (F.e rfl) 0 s4_fa_71_0_0 ⟨g7, 0, none⟩ rfl) ?_; clear F a; intro a F
    refine list_val F (wn rfl) rfl rfl (.int .i64 o.do_) (ex_load _ _ rfl _ (F.e rfl) _ (lv1 s4_one_3 (M.cell (i := 0) rfl (j := 0) (St.arr_0 _)))) ?_; clear F a; intro a F
    refine list_val F (wn rfl) rfl rfl (.bool false) (ex_bin .lss _ _ _ _ rfl .i64 _ _ (F.e rfl) rfl _ (b_lss (decide_eq_false (by omega)))) ?_; clear F a; intro a F
    refine list_val F (wn rfl) rfl rfl (.bool false) (ex_move _ rfl _ (F.e rfl)) ?_; clear F a; intro a F
    refine list_val F (F.wants 48 false rfl (by kernel_rfl) rfl true rfl) rfl rfl (.pointer (some ⟨g7, 0, none⟩)) (ex_fa _ _ _ rfl _ (F.e rfl) 0 s4_fa_71_0_0 ⟨g7, 0, none⟩ rfl) ?_; clear F a; intro a F
    refine list_val F (F.wants 48 false rfl (by kernel_rfl) rfl true rfl) rfl rfl (.int .i64 o.do_) (ex_load _ _ rfl _ (F.e rfl) _ (lv1 s4_one_3 (M.cell (i := 0) rfl (j := 0) (St.arr_0 _)))) ?_; clear F a; intro a F
    refine list_val F (F.wants 48 false rfl (by kernel_rfl) rfl true rfl) rfl rfl (.bool true) (ex_bin .gtr _ _ _ _ rfl .i64 _ _ (F.e rfl) rfl _ (b_gtr (decide_eq_true (by omega)))) ?_; clear F a; intro a F
    refine list_val F (wn rfl) rfl rfl (.bool true) (ex_pick_f _ _ _ rfl (F.e rfl) _ (F.e rfl)) ?_; clear F a; intro a F
    refine wpList_nil ?_
    refine then_n ?_
    refine wp_cond_true (F.e rfl) ?_
    refine wp_exit ?_
    refine then_x ?_
    refine in_hit ?_
    refine then_n ?_
    refine wp_region_lit ?_
    refine list_val F (wn rfl) rfl rfl (.int .i64 i) (ex_move _ rfl _ (F.e rfl)) ?_; clear F a; intro a F
    refine list_val F (wn rfl) rfl rfl (.int .i64 (i + 1)) (ex_bin .add _ _ _ _ rfl .i64 _ _ (F.e rfl) rfl _ (b_add (w_i64 (by omega) (by omega)))) ?_; clear F a; intro a F
    refine list_val F (wn rfl) rfl rfl (.int .i64 (i + 1)) (ex_assign _ rfl _ (F.e rfl)) ?_; clear F a; intro a F
    refine wpList_nil ?_
    refine then_n ?_
    exact ⟨l.length - (i + 1), by omega, (i + 1), own, lim, tn, RA, rc, rks, F.keep ⟨rfl, rfl, rfl, rfl, rfl, rfl, trivial⟩, (by refine M.pick' [] _ ?_ (by decide); exact trivial), S_, (by omega), (by omega), (by omega), (by omega), (by omega)⟩
   refine wp_region_lit ?_
   refine list_val F (wn rfl) rfl rfl (.pointer (some ⟨g7, 0, none⟩)) (ex_fa _ _ _ rfl _ (F.e rfl) 0 s4_fa_71_0_0 ⟨g7, 0, none⟩ rfl) ?_; clear F a; intro a F
   refine list_val F (wn rfl) rfl rfl (.int .i64 o.do_) (ex_load _ _ rfl _ (F.e rfl) _ (lv1 s4_one_3 (M.cell (i := 0) rfl (j := 0) (St.arr_0 _)))) ?_; clear F a; intro a F
   refine list_val F (wn rfl) rfl rfl (.bool false) (ex_bin .lss _ _ _ _ rfl .i64 _ _ (F.e rfl) rfl _ (b_lss (decide_eq_false (by omega)))) ?_; clear F a; intro a F
   refine list_val F (wn rfl) rfl rfl (.bool false) (ex_move _ rfl _ (F.e rfl)) ?_; clear F a; intro a F
   refine list_val F (F.wants 48 false rfl (by kernel_rfl) rfl true rfl) rfl rfl (.pointer (some ⟨g7, 0, none⟩)) (ex_fa _ _ _ rfl _ (F.e rfl) 0 s4_fa_71_0_0 ⟨g7, 0, none⟩ rfl) ?_; clear F a; intro a F
   refine list_val F (F.wants 48 false rfl (by kernel_rfl) rfl true rfl) rfl rfl (.int .i64 o.do_) (ex_load _ _ rfl _ (F.e rfl) _ (lv1 s4_one_3 (M.cell (i := 0) rfl (j := 0) (St.arr_0 _)))) ?_; clear F a; intro a F
   refine list_val F (F.wants 48 false rfl (by kernel_rfl) rfl true rfl) rfl rfl (.bool false) (ex_bin .gtr _ _ _ _ rfl .i64 _ _ (F.e rfl) rfl _ (b_gtr (decide_eq_false (by omega)))) ?_; clear F a; intro a F
   refine list_val F (wn rfl) rfl rfl (.bool false) (ex_pick_f _ _ _ rfl (F.e rfl) _ (F.e rfl)) ?_; clear F a; intro a F
   refine wpList_nil ?_
   refine then_n ?_
   refine wp_cond_false (F.e rfl) ?_
   refine wp_skip ?_
   refine then_n ?_
   refine wp_seq ?_
   refine wp_region_lit ?_
   refine list_val F (wn rfl) rfl rfl (.slice RA rks.length rc) (ex_move _ rfl _ (F.e rfl)) ?_; clear F a; intro a F
   refine list_val F (wn rfl) rfl rfl (.agg o.arr) (ex_load _ _ rfl _ (F.e rfl) _ (lrow71 o (M.at (i := 0) rfl))) ?_; clear F a; intro a F
   refine list_do (wn rfl) (fun K hK => ?_)
   obtain ⟨q, hq⟩ : ∃ q, dueF rks o.do_ o.grant o.id o.exp = q := ⟨_, rfl⟩
   have hqb : q.length ≤ rks.length + 1 := by rw [← hq]; exact dueF_len _ _ _ _ _
   obtain ⟨bw, hbw_⟩ : ∃ b, b = u.heap.size := ⟨_, rfl⟩
   have hlw : lim ≤ bw := by rw [hbw_]; exact S_.lim.2
   refine ow_call rfl rfl F 6 #[.slice RA rks.length rc, .agg o.arr] (ex_call 6 _ _ rfl rfl s4_ent_6 _ (map2 (F.e rfl) (F.e rfl))) (due_w rks RA rc o _ S_.rd S_.rc (by omega)) (fun e v hR => ?_)
   obtain ⟨wA, wc, he, O_w, hb⟩ := hR
   rw [hq] at he O_w
   replace O_w : Ow kRv 85 v bw (.slice wA q.length wc) q := by rw [hbw_]; exact O_w
   have Z_ : bw ≤ v.heap.size := by rw [hbw_]; exact hb.size
   clear hbw_
   refine ⟨.slice wA q.length wc, he, ?_⟩; clear he F a; intro a F
   refine hK _ _ ?_
   clear hK K
   replace S_ := S_.below hb
   replace M := M.below hb; clear hb; try clear u
   refine list_val F (wn rfl) rfl rfl (.slice wA q.length wc) (ex_assign _ rfl _ (F.e rfl)) ?_; clear F a; intro a F
   refine wpList_nil ?_
   refine then_n ?_
   refine wp_seq ?_
   have O_l := S_.ring.1
   have LT_l : ∀ k, (Value.slice RA rks.length rc).ownBlock = some k → k < bw := fun k hk => Nat.lt_of_lt_of_le (S_.ring.2 k hk).2 hlw
   replace S_ := S_.setr O_w (Nat.le_trans S_.lim.1 hlw) (fun k hk => ⟨S_.fresh k (by have h_ := (Ow_lt O_w hk).1; omega), (Ow_lt O_w hk).2⟩) hlw S_.lim.2 (Nat.le_refl _)
   obtain ⟨lw, hlw2⟩ : ∃ l, l = v.heap.size := ⟨_, rfl⟩
   rw [← hlw2] at S_; have hbwl : bw ≤ lw := by rw [hlw2]; exact Z_
   clear hlw2 O_w
   refine wp_region_lit ?_
   refine list_val F (wn rfl) rfl rfl (.slice RA rks.length rc) (ex_move _ rfl _ (F.e rfl)) ?_; clear F a; intro a F
   refine list_do (wn rfl) (fun K hK => ?_)
   obtain ⟨bx, hbx_⟩ : ∃ b, b = v.heap.size := ⟨_, rfl⟩
   have hlx : lw ≤ bx := by rw [hbx_]; exact S_.lim.2
   refine ow_call rfl rfl F 7 #[.slice RA rks.length rc] (ex_call 7 _ _ rfl rfl s4_ent_7 _ (map1 (F.e rfl))) (lend_any rks _ rc _ (Ow.rd O_l).1 (Ow.rd O_l).2.2 (by omega)) (fun e u hR => ?_)
   obtain ⟨XA, xc, he, O_x, hb⟩ := hR
   replace O_x : Ow kRv 85 u bx (.slice XA (rks ++ marks).length xc) (rks ++ marks) := by rw [hbx_]; exact O_x
   replace Z_ : bx ≤ u.heap.size := by rw [hbx_]; exact hb.size
   clear hbx_
   refine ⟨.slice XA rks.length xc, he, ?_⟩; clear he F a; intro a F
   refine hK _ _ ?_
   clear hK K
   replace S_ := S_.below hb
   replace O_l := O_l.below hb
   replace M := M.below hb; clear hb; try clear v
   refine list_val F (wn rfl) rfl rfl (.slice XA rks.length xc) (ex_assign _ rfl _ (F.e rfl)) ?_; clear F a; intro a F
   refine wpList_nil ?_
   refine then_n ?_
   refine wp_seq ?_
   refine wp_region_lit ?_
   refine list_val F (wn rfl) rfl rfl (.slice XA rks.length xc) (ex_move _ rfl _ (F.e rfl)) ?_; clear F a; intro a F
   refine list_val F (wn rfl) rfl rfl (.agg o.arr) (ex_load _ _ rfl _ (F.e rfl) _ (lrow71 o (M.at (i := 0) rfl))) ?_; clear F a; intro a F
   refine list_do (wn rfl) (fun K hK => ?_)
   obtain ⟨bg, hbg_⟩ : ∃ b, b = u.heap.size := ⟨_, rfl⟩
   have hxg : ∀ k, (Value.slice XA (rks ++ marks).length xc).ownBlock = some k → k < bg := fun k hk => by rw [hbg_]; exact (Ow_lt O_x hk).2
   have hbxg : bx ≤ bg := by rw [hbg_]; exact Z_
   refine ow_call rfl rfl F 8 #[.slice XA rks.length xc, .agg o.arr] (ex_call 8 _ _ rfl rfl s4_ent_8 _ (map2 (F.e rfl) (F.e rfl))) (step_w rks XA xc o _ (lent_rd O_x) (lent_le O_x) (by omega)) (fun e v hR => ?_)
   obtain ⟨gA, gc, he, O_g, hb⟩ := hR
   rw [hq] at he O_g
   replace O_g : Ow kRv 85 v bg (.slice gA q.length gc) q := by rw [hbg_]; exact O_g
   replace Z_ : bg ≤ v.heap.size := by rw [hbg_]; exact hb.size
   clear hbg_
   refine ⟨.slice gA q.length gc, he, ?_⟩; clear he F a; intro a F
   refine hK _ _ ?_
   clear hK K
   replace S_ := S_.below hb
   replace O_l := O_l.below hb
   replace O_x := O_x.below hb
   replace M := M.below hb; clear hb; try clear u
   refine list_val F (wn rfl) rfl rfl (.slice gA q.length gc) (ex_assign _ rfl _ (F.e rfl)) ?_; clear F a; intro a F
   refine wpList_nil ?_
   refine then_n ?_
   refine wp_seq ?_
   refine wp_region_lit ?_
   refine list_val F (wn rfl) rfl rfl (.slice XA rks.length xc) (ex_move _ rfl _ (F.e rfl)) ?_; clear F a; intro a F
   refine list_val F (wn rfl) rfl rfl (.agg o.arr) (ex_load _ _ rfl _ (F.e rfl) _ (lrow71 o (M.at (i := 0) rfl))) ?_; clear F a; intro a F
   refine list_do (wn rfl) (fun K hK => ?_)
   obtain ⟨bt, hbt_⟩ : ∃ b, b = v.heap.size := ⟨_, rfl⟩
   have hgt : ∀ k, (Value.slice gA q.length gc).ownBlock = some k → k < bt := fun k hk => by rw [hbt_]; exact (Ow_lt O_g hk).2
   have hbgt : bg ≤ bt := by rw [hbt_]; exact Z_
   refine ow_call rfl rfl F 8 #[.slice XA rks.length xc, .agg o.arr] (ex_call 8 _ _ rfl rfl s4_ent_8 _ (map2 (F.e rfl) (F.e rfl))) (step_w rks XA xc o _ (lent_rd O_x) (lent_le O_x) (by omega)) (fun e u hR => ?_)
   obtain ⟨tA, tc, he, O_t, hb⟩ := hR
   rw [hq] at he O_t
   replace O_t : Ow kRv 85 u bt (.slice tA q.length tc) q := by rw [hbt_]; exact O_t
   replace Z_ : bt ≤ u.heap.size := by rw [hbt_]; exact hb.size
   clear hbt_
   refine ⟨.slice tA q.length tc, he, ?_⟩; clear he F a; intro a F
   refine hK _ _ ?_
   clear hK K
   replace S_ := S_.below hb
   replace O_l := O_l.below hb
   replace O_x := O_x.below hb
   replace O_g := O_g.below hb
   replace M := M.below hb; clear hb; try clear v
   refine list_val F (wn rfl) rfl rfl (.slice tA q.length tc) (ex_assign _ rfl _ (F.e rfl)) ?_; clear F a; intro a F
   refine wpList_nil ?_
   refine then_n ?_
   refine wp_seq ?_
   refine wp_seq ?_
   refine wp_region_lit ?_
   refine list_val F (wn rfl) rfl rfl (.slice gA q.length gc) (ex_move _ rfl _ (F.e rfl)) ?_; clear F a; intro a F
   refine list_val F (wn rfl) rfl rfl (.slice wA q.length wc) (ex_move _ rfl _ (F.e rfl)) ?_; clear F a; intro a F
   refine list_do (wn rfl) (fun K hK => ?_)
   refine ow_call rfl rfl F 9 #[.slice gA q.length gc, .slice wA q.length wc] (ex_call 9 _ _ rfl rfl s4_ent_9 _ (map2 (F.e rfl) (F.e rfl))) (eq_any q _ _ _ _ _ (Ow.rd O_g).1 S_.rd (by omega)) (fun e v hR => ?_)
   obtain ⟨he, hb⟩ := hR
   refine ⟨.bool true, he, ?_⟩; clear he F a; intro a F
   refine hK _ _ ?_
   clear hK K
   replace S_ := S_.below hb
   replace O_l := O_l.below hb
   replace O_x := O_x.below hb
   replace O_g := O_g.below hb
   replace O_t := O_t.below hb
   replace Z_ := Nat.le_trans Z_ hb.size
   replace M := M.below hb; clear hb; try clear u
   refine list_val F (wn rfl) rfl rfl (.bool false) (ex_not _ _ rfl _ (F.e rfl) _ rfl) ?_; clear F a; intro a F
   refine list_val F (wn rfl) rfl rfl (.bool false) (ex_move _ rfl _ (F.e rfl)) ?_; clear F a; intro a F
   refine list_val F (F.wants 68 false rfl (by kernel_rfl) rfl true rfl) rfl rfl (.slice XA rks.length xc) (ex_move _ rfl _ (F.e rfl)) ?_; clear F a; intro a F
   refine list_val F (F.wants 68 false rfl (by kernel_rfl) rfl true rfl) rfl rfl (.slice RA rks.length rc) (ex_move _ rfl _ (F.e rfl)) ?_; clear F a; intro a F
   refine list_do (F.wants 68 false rfl (by kernel_rfl) rfl true rfl) (fun K hK => ?_)
   refine ow_call rfl rfl F 10 #[.slice XA rks.length xc, .slice RA rks.length rc] (ex_call 10 _ _ rfl rfl s4_ent_10 _ (map2 (F.e rfl) (F.e rfl))) (back_any rks _ xc _ rc _ (Ow.rd O_x).1 (Ow.rd O_x).2.2 (Ow.rd O_l).1 (Ow.rd O_l).2.2 (by omega)) (fun e u hR => ?_)
   obtain ⟨he, hb⟩ := hR
   refine ⟨.bool true, he, ?_⟩; clear he F a; intro a F
   refine hK _ _ ?_
   clear hK K
   replace S_ := S_.below hb
   replace O_l := O_l.below hb
   replace O_x := O_x.below hb
   replace O_g := O_g.below hb
   replace O_t := O_t.below hb
   replace Z_ := Nat.le_trans Z_ hb.size
   replace M := M.below hb; clear hb; try clear v
   refine list_val F (F.wants 68 false rfl (by kernel_rfl) rfl true rfl) rfl rfl (.bool false) (ex_not _ _ rfl _ (F.e rfl) _ rfl) ?_; clear F a; intro a F
   refine list_val F (wn rfl) rfl rfl (.bool false) (ex_pick_f _ _ _ rfl (F.e rfl) _ (F.e rfl)) ?_; clear F a; intro a F
   refine wpList_nil ?_
   replace F : Fr 100 a [(0, .slice (some adt) l.length c), (2, .bool false), (3, .pointer (some ⟨g13, 0, none⟩)), (4, .pointer (some ⟨g15, 0, none⟩)), (5, .slice RA rks.length rc), (6, .int .i64 i), (7, .pointer (some ⟨g7, 0, none⟩)), (8, .slice wA q.length wc), (9, .slice XA rks.length xc), (10, .slice gA q.length gc), (11, .slice tA q.length tc), (23, .bool true), (32, .bool false), (44, .bool false), (52, .bool false), (73, .bool false)] := F.keep ⟨rfl, rfl, rfl, rfl, rfl, rfl, rfl, rfl, rfl, rfl, rfl, rfl, rfl, rfl, rfl, rfl, trivial⟩
   refine then_n ?_
   refine wp_cond_false (F.e rfl) ?_
   refine wp_skip ?_
   refine then_n ?_
   refine wp_seq ?_
   refine wp_region_lit ?_
   refine list_val F (wn rfl) rfl rfl (.slice XA rks.length xc) (ex_move _ rfl _ (F.e rfl)) ?_; clear F a; intro a F
   refine list_do (wn rfl) (fun K hK => ?_)
   refine ow_call rfl rfl F 11 #[.slice XA rks.length xc] (ex_call 11 _ _ rfl rfl s4_ent_11 _ (map1 (F.e rfl))) (over_own O_x (by omega)) (fun e v hR => ?_)
   obtain ⟨he, gx, cx, hcx, hbx, hox, hgr⟩ := hR
   refine ⟨.tuple #[], he, ?_⟩; clear he F a; intro a F
   refine hK _ _ ?_
   clear hK K
   replace S_ := S_.over hcx hlx hbx hgr
   replace O_l := O_l.far hgr (fun k hk e_ => by have h1 := LT_l k hk; have h2 := Option.some.inj e_; omega)
   replace O_g := Ow_ap O_g (by have h_ := hxg _ hox; omega) hgr
   replace O_t := Ow_ap O_t (by have h_ := hxg _ hox; omega) hgr
   replace Z_ := Nat.le_trans Z_ hgr.size
   replace M := mm_grows M (base := w.heap.size) (Nat.le_refl _) ⟨.inl (by show (71 : Nat) ≠ 85; decide), trivial⟩ ⟨some gx, hgr, fun g e => by injection e with e; subst e; exact ⟨Nat.le_trans S_.lim.1 (Nat.le_trans hlx hbx), cx, hcx⟩⟩
   clear O_x hcx hgr; try clear u
   refine wpList_nil ?_
   refine then_n ?_
   refine wp_seq ?_
   refine wp_region_lit ?_
   refine list_val F (wn rfl) rfl rfl (.pointer (some ⟨g13, 0, none⟩)) (ex_move _ rfl _ (F.e rfl)) ?_; clear F a; intro a F
   refine list_val F (wn rfl) rfl rfl (.slice gA q.length gc) (ex_move _ rfl _ (F.e rfl)) ?_; clear F a; intro a F
   refine list_do (wn rfl) (fun K hK => ?_)
   refine ow_call rfl rfl F 12 #[.pointer (some ⟨g13, 0, none⟩), .slice gA q.length gc] (ex_call 12 _ _ rfl rfl s4_ent_12 _ (map2 (F.e rfl) (F.e rfl))) (take_st S_ bg (by omega) gA gc q O_g bt hgt (by omega) Z_ (by omega) (by omega)) (fun e u hR => ?_)
   obtain ⟨he, own2, S2, ho2, ho⟩ := hR
   refine ⟨.tuple #[], he, ?_⟩; clear he F a; intro a F
   refine hK _ _ ?_
   clear hK K
   replace M := mm_onlyT M ho (Nat.le_refl _) M.bel.size (fun k hk => Ow_cells O_g hk) ⟨⟨by show (71 : Nat) ∉ [50, 57, 3]; decide, by show (71 : Nat) ≠ 85; decide⟩, trivial⟩
   replace O_l := Ow_only O_l ho (by decide) (fun k hk e => by have h1 := LT_l k hk; have h2 := (Ow_lt O_g e).1; omega)
   replace O_t := Ow_only O_t ho (by decide) (fun k hk e => by have h1 := (Ow_lt O_t hk).1; have h2 := hgt k e; omega)
   replace Z_ := Nat.le_trans Z_ ho.size
   clear S_ O_g ho ho2; have S_ := S2; clear S2; try clear v
   refine wpList_nil ?_
   refine then_n ?_
   refine wp_seq ?_
   refine wp_seq ?_
   refine wp_region_lit ?_
   refine list_val F (wn rfl) rfl rfl (.slice tA q.length tc) (ex_move _ rfl _ (F.e rfl)) ?_; clear F a; intro a F
   refine list_val F (wn rfl) rfl rfl (.slice wA q.length wc) (ex_move _ rfl _ (F.e rfl)) ?_; clear F a; intro a F
   refine list_do (wn rfl) (fun K hK => ?_)
   refine ow_call rfl rfl F 9 #[.slice tA q.length tc, .slice wA q.length wc] (ex_call 9 _ _ rfl rfl s4_ent_9 _ (map2 (F.e rfl) (F.e rfl))) (eq_any q _ _ _ _ _ (Ow.rd O_t).1 S_.rd (by omega)) (fun e v hR => ?_)
   obtain ⟨he, hb⟩ := hR
   refine ⟨.bool true, he, ?_⟩; clear he F a; intro a F
   refine hK _ _ ?_
   clear hK K
   replace S_ := S_.below hb
   replace O_l := O_l.below hb
   replace O_t := O_t.below hb
   replace Z_ := Nat.le_trans Z_ hb.size
   replace M := M.below hb; clear hb; try clear u
   refine list_val F (wn rfl) rfl rfl (.bool false) (ex_not _ _ rfl _ (F.e rfl) _ rfl) ?_; clear F a; intro a F
   refine wpList_nil ?_
   refine then_n ?_
   refine wp_cond_false (F.e rfl) ?_
   refine wp_skip ?_
   refine then_n ?_
   refine wp_seq ?_
   refine wp_region_lit ?_
   refine list_val F (wn rfl) rfl rfl (.pointer (some ⟨g13, 0, none⟩)) (ex_move _ rfl _ (F.e rfl)) ?_; clear F a; intro a F
   refine list_val F (wn rfl) rfl rfl (.slice tA q.length tc) (ex_move _ rfl _ (F.e rfl)) ?_; clear F a; intro a F
   refine list_do (wn rfl) (fun K hK => ?_)
   refine ow_call rfl rfl F 12 #[.pointer (some ⟨g13, 0, none⟩), .slice tA q.length tc] (ex_call 12 _ _ rfl rfl s4_ent_12 _ (map2 (F.e rfl) (F.e rfl))) (take_st S_ bt (by omega) tA tc q O_t v.heap.size (fun k hk => (Ow_lt O_t hk).2) (by omega) (Nat.le_refl _) (by omega) (by omega)) (fun e u hR => ?_)
   obtain ⟨he, own3, S2, ho2, ho⟩ := hR
   refine ⟨.tuple #[], he, ?_⟩; clear he F a; intro a F
   refine hK _ _ ?_
   clear hK K
   replace M := mm_onlyT M ho (Nat.le_refl _) M.bel.size (fun k hk => Ow_cells O_t hk) ⟨⟨by show (71 : Nat) ∉ [50, 57, 3]; decide, by show (71 : Nat) ≠ 85; decide⟩, trivial⟩
   replace O_l := Ow_only O_l ho (by decide) (fun k hk e => by have h1 := LT_l k hk; have h2 := (Ow_lt O_t e).1; omega)
   obtain ⟨lf, hlf⟩ : ∃ l, l = v.heap.size := ⟨_, rfl⟩
   rw [← hlf] at S2
   have hlf2 : bt ≤ lf := by rw [hlf]; exact Z_
   clear hlf
   clear S_ O_t ho ho2; have S_ := S2; clear S2 Z_; try clear v
   refine wpList_nil ?_
   refine then_n ?_
   refine wp_seq ?_
   refine wp_seq ?_
   refine wp_only (fun ar wr => ∃ (sA : Option Addr), ∃ (sc : Nat), ∃ (lz : Nat), ∃ (fA : Option Addr), ∃ (fc : Nat), Fr 100 ar [(0, .slice (some adt) l.length c), (2, .bool false), (3, .pointer (some ⟨g13, 0, none⟩)), (4, .pointer (some ⟨g15, 0, none⟩)), (5, .slice RA rks.length rc), (6, .int .i64 i), (7, .pointer (some ⟨g7, 0, none⟩)), (8, .slice wA q.length wc), (9, .slice XA rks.length xc), (10, .slice gA q.length gc), (11, .slice tA q.length tc), (23, .bool true), (32, .bool false), (44, .bool false), (52, .bool false), (73, .bool false), (82, .bool false), (93, .bool false)] ∧ Mm w wr [⟨g7, o.arr, 71⟩] ∧ Sb own3 w.heap.size lz g13 g15 (tn + 1 + 1) wA wc q wr ∧ Ow kRv 85 wr w.heap.size (.slice sA rks.length sc) rks ∧ Ow kRv 85 wr w.heap.size (.slice fA q.length fc) q) ?_ ?_
   ·
    refine region_anyM s4_follows_mixedOrders M [⟨g7, o.arr, 71⟩] (fun w' M => (by refine M.pick' [0] _ ?_ (by decide); exact ⟨rfl, trivial⟩)) ?_; clear M; intro wD M hb
    replace S_ := S_.below hb
    replace O_l := O_l.below hb
    clear hb; try clear u
    have hS : Mm w wD [⟨g7, o.arr, 71⟩] := (by refine M.pick' [0] _ ?_ (by decide); exact ⟨rfl, trivial⟩)
    refine any_val F 0 rfl (by kernel_rfl) (wn rfl) rfl rfl (.pointer (some ⟨g15, 0, none⟩)) (fun w' hS' => ex_move _ rfl _ (F.e rfl)) hS ?_; clear F a; intro a F
    refine any_val F 1 rfl (by kernel_rfl) (wn rfl) rfl rfl (.slice RA rks.length rc) (fun w' hS' => ex_move _ rfl _ (F.e rfl)) hS ?_; clear F a; intro a F
    refine any_val F 3 rfl (by kernel_rfl) (wn rfl) rfl rfl (.agg o.arr) (fun w' hS' => ex_load _ _ rfl _ (F.e rfl) _ (lrow71 o (hS'.at (i := 0) rfl))) hS ?_; clear F a; intro a F
    refine any_val F 5 rfl (by kernel_rfl) (wn rfl) rfl rfl (.slice wA q.length wc) (fun w' hS' => ex_move _ rfl _ (F.e rfl)) hS ?_; clear F a; intro a F
    refine any_ready [2] (by kernel_rfl) (by simp) ?_
    refine ready_do rfl (wn rfl) (fun K hK => ?_) AllReadyH.nil
    refine ow_call rfl rfl F 13 #[.pointer (some ⟨g15, 0, none⟩), .slice RA rks.length rc] (ex_call 13 _ _ rfl rfl s4_ent_13 _ (map2 (F.e rfl) (F.e rfl))) (seat_any own3 w.heap.size lf g13 g15 (tn + 1 + 1) wA wc q _ S_ RA rc rks (Ow.rd O_l).1 (by omega)) (fun e v hR => ?_)
    obtain ⟨sA, sc, he, S2, O_s, x_, ho, hx_⟩ := hR
    refine ⟨.slice sA rks.length sc, he, ?_⟩; clear he F a; intro a F
    replace hS : Mm w v [⟨g7, o.arr, 71⟩] := (by refine (mm_onlyT M ho (Nat.le_refl _) M.bel.size (fun k hk => (hx_ k hk).2) ⟨⟨by show (71 : Nat) ∉ [66]; decide, by show (71 : Nat) ≠ 85; decide⟩, trivial⟩).pick' [0] _ ?_ (by decide); exact ⟨rfl, trivial⟩)
    refine hK _ _ hS ?_
    clear hK K
    replace M := mm_onlyT M ho (Nat.le_refl _) M.bel.size (fun k hk => (hx_ k hk).2) ⟨⟨by show (71 : Nat) ∉ [66]; decide, by show (71 : Nat) ≠ 85; decide⟩, trivial⟩
    obtain ⟨lz, hlz⟩ : ∃ l, l = v.heap.size := ⟨_, rfl⟩
    rw [← hlz] at S2
    clear S_ ho hx_ hlz O_l; have S_ := S2; clear S2; try clear wD
    refine any_ready [4] (by kernel_rfl) (by simp) ?_
    refine ready_do rfl (wn rfl) (fun K hK => ?_) AllReadyH.nil
    refine ow_call rfl rfl F 8 #[.slice sA rks.length sc, .agg o.arr] (ex_call 8 _ _ rfl rfl s4_ent_8 _ (map2 (F.e rfl) (F.e rfl))) (step_w rks sA sc o _ (Ow.rd O_s).1 (Ow.rd O_s).2.2 (by omega)) (fun e u hR => ?_)
    obtain ⟨fA, fc, he, O_f, hb⟩ := hR
    rw [hq] at he O_f
    replace O_f := Ow.low (enc := Rv.cs) (m := 19) (hl := Rv.cs_len) (h1 := Rv.cs_one) O_f (Nat.le_trans S_.lim.1 S_.lim.2)
    refine ⟨.slice fA q.length fc, he, ?_⟩; clear he F a; intro a F
    replace hS : Mm w u [⟨g7, o.arr, 71⟩] := (by refine (M.below hb).pick' [0] _ ?_ (by decide); exact ⟨rfl, trivial⟩)
    refine hK _ _ hS ?_
    clear hK K
    replace S_ := S_.below hb
    replace O_s := O_s.below hb
    replace M := M.below hb; clear hb; try clear v
    refine any_ready [6] (by kernel_rfl) (by simp) ?_
    refine ready_do rfl (wn rfl) (fun K hK => ?_) AllReadyH.nil
    refine ow_call rfl rfl F 9 #[.slice fA q.length fc, .slice wA q.length wc] (ex_call 9 _ _ rfl rfl s4_ent_9 _ (map2 (F.e rfl) (F.e rfl))) (eq_any q _ _ _ _ _ (Ow.rd O_f).1 S_.rd (by omega)) (fun e v hR => ?_)
    obtain ⟨he, hb⟩ := hR
    refine ⟨.bool true, he, ?_⟩; clear he F a; intro a F
    replace hS : Mm w v [⟨g7, o.arr, 71⟩] := (by refine (M.below hb).pick' [0] _ ?_ (by decide); exact ⟨rfl, trivial⟩)
    refine hK _ _ hS ?_
    clear hK K
    replace S_ := S_.below hb
    replace O_s := O_s.below hb
    replace O_f := O_f.below hb
    replace M := M.below hb; clear hb; try clear u
    refine any_val F 7 rfl (by kernel_rfl) (wn rfl) rfl rfl (.bool false) (fun w' hS' => ex_not _ _ rfl _ (F.e rfl) _ rfl) hS ?_; clear F a; intro a F
    refine any_done (by kernel_rfl) ?_
    exact ⟨sA, sc, lz, fA, fc, F.keep ⟨rfl, rfl, rfl, rfl, rfl, rfl, rfl, rfl, rfl, rfl, rfl, rfl, rfl, rfl, rfl, rfl, rfl, rfl, trivial⟩, (by refine M.pick' [0] _ ?_ (by decide); exact ⟨rfl, trivial⟩), S_, O_s, O_f⟩
   clear F M a S_ O_l
   intro a v hR; obtain ⟨sA, sc, lz, fA, fc, F, M, S_, O_s, O_f⟩ := hR; try clear u
   refine then_n ?_
   refine wp_cond_false (F.e rfl) ?_
   refine wp_skip ?_
   refine then_n ?_
   clear O_s
   clear O_f
   refine wp_region_lit ?_
   refine list_val F (wn rfl) rfl rfl (.slice wA q.length wc) (ex_move _ rfl _ (F.e rfl)) ?_; clear F a; intro a F
   refine list_val F (wn rfl) rfl rfl (.slice wA q.length wc) (ex_assign _ rfl _ (F.e rfl)) ?_; clear F a; intro a F
   refine wpList_nil ?_
   refine in_n ?_
   refine then_n ?_
   refine wp_region_lit ?_
   refine list_val F (wn rfl) rfl rfl (.int .i64 i) (ex_move _ rfl _ (F.e rfl)) ?_; clear F a; intro a F
   refine list_val F (wn rfl) rfl rfl (.int .i64 (i + 1)) (ex_bin .add _ _ _ _ rfl .i64 _ _ (F.e rfl) rfl _ (b_add (w_i64 (by omega) (by omega)))) ?_; clear F a; intro a F
   refine list_val F (wn rfl) rfl rfl (.int .i64 (i + 1)) (ex_assign _ rfl _ (F.e rfl)) ?_; clear F a; intro a F
   refine wpList_nil ?_
   refine then_n ?_
   exact ⟨l.length - (i + 1), by omega, (i + 1), own3, lz, (tn + 1 + 1), wA, wc, q, F.keep ⟨rfl, rfl, rfl, rfl, rfl, rfl, trivial⟩, (by refine M.pick' [] _ ?_ (by decide); exact trivial), S_, (by omega), (by omega), (by omega), (by omega), (by omega)⟩
  refine wp_seq ?_
  refine wp_seq ?_
  refine wp_region_lit ?_
  refine list_val F (wn rfl) rfl rfl (.int .i64 i) (ex_move _ rfl _ (F.e rfl)) ?_; clear F a; intro a F
  refine list_val F (wn rfl) rfl rfl (.slice A l.length c) (ex_move _ rfl _ (F.e rfl)) ?_; clear F a; intro a F
  refine list_val F (wn rfl) rfl rfl (.int .i64 ((l.length : Nat) : Int)) (ex_len _ _ rfl 20 s4_sl_22_20 _ _ _ (F.e rfl)) ?_; clear F a; intro a F
  refine list_val F (wn rfl) rfl rfl (.bool true) (ex_bin .lss _ _ _ _ rfl .i64 _ _ (F.e rfl) (F.e rfl) _ (b_lss (decide_eq_true (by omega)))) ?_; clear F a; intro a F
  refine list_val F (wn rfl) rfl rfl (.bool true) (ex_move _ rfl _ (F.e rfl)) ?_; clear F a; intro a F
  refine list_val F (F.wants 20 true rfl (by kernel_rfl) rfl true rfl) rfl rfl (.int .i64 i) (ex_move _ rfl _ (F.e rfl)) ?_; clear F a; intro a F
  refine list_val F (F.wants 20 true rfl (by kernel_rfl) rfl true rfl) rfl rfl (.bool false) (ex_bin .lss _ _ _ _ rfl .i64 _ _ (F.e rfl) rfl _ (b_lss (decide_eq_false (by omega)))) ?_; clear F a; intro a F
  refine list_val F (wn rfl) rfl rfl (.bool false) (ex_pick_t _ _ _ rfl (F.e rfl) _ (F.e rfl)) ?_; clear F a; intro a F
  refine wpList_nil ?_
  refine then_n ?_
  refine wp_cond_false (F.e rfl) ?_
  refine wp_exit ?_
  refine then_x ?_
  refine then_x ?_
  refine in_hit ?_
  refine then_n ?_
  refine wp_seq ?_
  refine wp_region_lit ?_
  refine list_val F (wn rfl) rfl rfl (.pointer (some ⟨g13, 0, none⟩)) (ex_move _ rfl _ (F.e rfl)) ?_; clear F a; intro a F
  refine list_do (wn rfl) (fun K hK => ?_)
  refine ow_call rfl rfl F 14 #[.pointer (some ⟨g13, 0, none⟩)] (ex_call 14 _ _ rfl rfl s4_ent_14 _ (map1 (F.e rfl))) (look_st S_ (by omega)) (fun e u hR => ?_)
  obtain ⟨he, hb⟩ := hR
  refine ⟨.bool true, he, ?_⟩; clear he F a; intro a F
  refine hK _ _ ?_
  clear hK K
  have hfin := M.bel.trans hb
  clear S_; replace M := mm_end M hb; try clear v
  refine list_val F (wn rfl) rfl rfl (.bool true) (ex_move _ rfl _ (F.e rfl)) ?_; clear F a; intro a F
  refine list_do (F.wants 97 true rfl (by kernel_rfl) rfl true rfl) (fun K hK => ?_)
  refine ow_call rfl rfl F 15 #[] (ex_call 15 _ _ rfl rfl s4_ent_15 _ (map0)) (wakes_any _) (fun e v hR => ?_)
  obtain ⟨he, hb⟩ := hR
  refine ⟨.bool true, he, ?_⟩; clear he F a; intro a F
  refine hK _ _ ?_
  clear hK K
  replace M := M.below hb; clear hb; try clear u
  refine list_val F (wn rfl) rfl rfl (.bool true) (ex_pick_t _ _ _ rfl (F.e rfl) _ (F.e rfl)) ?_; clear F a; intro a F
  refine list_val F (wn rfl) rfl rfl (.bool true) (ex_assign _ rfl _ (F.e rfl)) ?_; clear F a; intro a F
  refine wpList_nil ?_
  refine then_n ?_
  refine wp_ret ?_
  exact ret_tmp F rfl rfl ⟨rfl, M.bel⟩
 refine wp_seq ?_
 refine wp_seq ?_
 refine wp_region_lit ?_
 refine list_val F (wn rfl) rfl rfl (.int .i64 i) (ex_move _ rfl _ (F.e rfl)) ?_; clear F a; intro a F
 refine list_val F (wn rfl) rfl rfl (.slice A l.length c) (ex_move _ rfl _ (F.e rfl)) ?_; clear F a; intro a F
 refine list_val F (wn rfl) rfl rfl (.int .i64 ((l.length : Nat) : Int)) (ex_len _ _ rfl 20 s4_sl_22_20 _ _ _ (F.e rfl)) ?_; clear F a; intro a F
 refine list_val F (wn rfl) rfl rfl (.bool false) (ex_bin .lss _ _ _ _ rfl .i64 _ _ (F.e rfl) (F.e rfl) _ (b_lss (decide_eq_false (by omega)))) ?_; clear F a; intro a F
 refine list_val F (wn rfl) rfl rfl (.bool false) (ex_move _ rfl _ (F.e rfl)) ?_; clear F a; intro a F
 refine list_skip F (F.wants 20 false rfl (by kernel_rfl) rfl false rfl) rfl rfl ?_; clear F a; intro a F
 refine list_skip F (F.wants 20 false rfl (by kernel_rfl) rfl false rfl) rfl rfl ?_; clear F a; intro a F
 refine list_val F (wn rfl) rfl rfl (.bool false) (ex_pick_f _ _ _ rfl (F.e rfl) _ rfl) ?_; clear F a; intro a F
 refine wpList_nil ?_
 refine then_n ?_
 refine wp_cond_false (F.e rfl) ?_
 refine wp_exit ?_
 refine then_x ?_
 refine then_x ?_
 refine in_hit ?_
 refine then_n ?_
 refine wp_seq ?_
 refine wp_region_lit ?_
 refine list_val F (wn rfl) rfl rfl (.pointer (some ⟨g13, 0, none⟩)) (ex_move _ rfl _ (F.e rfl)) ?_; clear F a; intro a F
 refine list_do (wn rfl) (fun K hK => ?_)
 refine ow_call rfl rfl F 14 #[.pointer (some ⟨g13, 0, none⟩)] (ex_call 14 _ _ rfl rfl s4_ent_14 _ (map1 (F.e rfl))) (look_st S_ (by omega)) (fun e u hR => ?_)
 obtain ⟨he, hb⟩ := hR
 refine ⟨.bool true, he, ?_⟩; clear he F a; intro a F
 refine hK _ _ ?_
 clear hK K
 have hfin := M.bel.trans hb
 clear S_; replace M := mm_end M hb; try clear v
 refine list_val F (wn rfl) rfl rfl (.bool true) (ex_move _ rfl _ (F.e rfl)) ?_; clear F a; intro a F
 refine list_do (F.wants 97 true rfl (by kernel_rfl) rfl true rfl) (fun K hK => ?_)
 refine ow_call rfl rfl F 15 #[] (ex_call 15 _ _ rfl rfl s4_ent_15 _ (map0)) (wakes_any _) (fun e v hR => ?_)
 obtain ⟨he, hb⟩ := hR
 refine ⟨.bool true, he, ?_⟩; clear he F a; intro a F
 refine hK _ _ ?_
 clear hK K
 replace M := M.below hb; clear hb; try clear u
 refine list_val F (wn rfl) rfl rfl (.bool true) (ex_pick_t _ _ _ rfl (F.e rfl) _ (F.e rfl)) ?_; clear F a; intro a F
 refine list_val F (wn rfl) rfl rfl (.bool true) (ex_assign _ rfl _ (F.e rfl)) ?_; clear F a; intro a F
 refine wpList_nil ?_
 refine then_n ?_
 refine wp_ret ?_
 exact ret_tmp F rfl rfl ⟨rfl, M.bel⟩
end Go.Proofs.YtnjbjjmoglogeaaGreat
