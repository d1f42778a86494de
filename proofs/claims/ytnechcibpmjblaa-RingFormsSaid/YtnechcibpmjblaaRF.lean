/- The law RingForms of the given program answers true: its walk; steps, read. Conditions: the steps are read; their numbers are of their kinds. -/
import Derived.Test.YtnechcibpmjblaaRC
import Derived.Test.YtnechcibpmjblaaRL
namespace Go.Proofs.Ytnechcibpmjblaa
open Go.RowKit Go.Proofs.YtnechcibpmjblaaW.PrintWords KB WG RD
set_option linter.unusedVariables false
set_option linter.unusedSimpArgs false

/-! ### Steps -/
def stepCs (act : Int) (s : Bs 32) (tm kid : Int) (sl : Value) (next : Int) : List Value := .int .i64 act :: (s.cs ++ [.int .i64 tm, .int .u64 kid, sl, .int .u64 next])
section
variable {act : Int} {s : Bs 32} {tm kid : Int} {sl : Value} {next : Int}
theorem step_len : (stepCs act s tm kid sl next).length = 37 := by simp [stepCs, Bs.cs_len]
theorem step_size : ((stepCs act s tm kid sl next).toArray).size = 37 := by rw [List.size_toArray, step_len]
theorem step_get {j : Nat} {v : Value} (h : [Value.int .i64 tm, .int .u64 kid, sl, .int .u64 next][j]? = some v) : (stepCs act s tm kid sl next)[33 + j]? = some v := by
  have hs : s.cs.length = 32 := Bs.cs_len _
  rw [stepCs, show 33 + j = (32 + j) + 1 by omega, List.getElem?_cons_succ, List.getElem?_append_right (by omega), hs, show 32 + j - 32 = j by omega]
  exact h
theorem step_33 : (stepCs act s tm kid sl next)[33]? = some (.int .i64 tm) := step_get (j := 0) rfl
theorem step_34 : (stepCs act s tm kid sl next)[34]? = some (.int .u64 kid) := step_get (j := 1) rfl
theorem step_a33 : ((stepCs act s tm kid sl next).toArray)[33]? = some (.int .i64 tm) := by rw [List.getElem?_toArray]; exact step_33
theorem step_a34 : ((stepCs act s tm kid sl next).toArray)[34]? = some (.int .u64 kid) := by rw [List.getElem?_toArray]; exact step_34
theorem step_sec {w : World} {p : Addr} (h : At w p (stepCs act s tm kid sl next)) : At w (p.add 1) s.cs := fun j u hu => by
  rw [Addr.add_add]
  refine h (1 + j) u ?_
  have hj : j < s.cs.length := (List.getElem?_eq_some_iff.1 hu).1
  rw [Nat.add_comm]
  show (s.cs ++ _)[j]? = some u
  rw [List.getElem?_append_left hj]
  exact hu
theorem step_raw {w : World} {p : Addr} (h : At w p (stepCs act s tm kid sl next)) : At w (p.add 35) [sl, .int .u64 next] := fun j u hu => by
  rw [Addr.add_add, show 35 + j = 33 + (2 + j) by omega]
  exact h _ u (step_get (by rw [show 2 + j = j + 1 + 1 by omega]; simpa using hu))
theorem step_one (hs : sl.oneCell' = true) : ((stepCs act s tm kid sl next).toArray).all (·.oneCell') = true := all_oneCell_toArray (fun u hu => by
  simp only [stepCs, List.mem_cons, List.mem_append, List.not_mem_nil, or_false] at hu
  rcases hu with rfl | hu | rfl | rfl | rfl | rfl
  · rfl
  · exact Bs.cs_one _ u hu
  · rfl
  · rfl
  · exact hs
  · rfl)
end
theorem z72 : ∀ w, (zeroValue 72).run Try.prog w = .ok (.agg (stepCs 0 (zBs 32) 0 0 (.slice none 0 0) 0).toArray) w := fun _ => by kernel_rfl
abbrev kRing : Kd (List Key × Int) := Kd.iso (Kd.pair (Kd.slice 107 kKey) (Kd.int .u64)) id
abbrev StepT : Type := Int × Bs 32 × Int × Int × List Key × Int
abbrev kStep : Kd StepT := Kd.iso (Kd.pair (Kd.int .i64) (Kd.pair (kBs 32) (Kd.pair (Kd.int .i64) (Kd.pair (Kd.int .u64) kRing)))) id
def w107 (k : Key) : Prop := True
theorem rd107 (W : World) : Reads Try.prog W 107 kKey w107 :=
  reads_conv (RD.reads_struct Try.underlying107 (show RD.ReadsF _ _ [_, _, _] 0 _ _ from (RD.readsF_cons (RD.reads_int Try.underlying67) rfl (by kernel_rfl) (RD.readsF_cons (rd70 _) rfl (by kernel_rfl) (RD.readsF_one (RD.reads_int Try.underlying2) rfl (by kernel_rfl))))) (by kernel_rfl) id id (fun _ => rfl))
    (fun x cs hk hw => by
      obtain ⟨k, s, t⟩ := x
      obtain ⟨c1, r1, rfl, rfl, c2, r2, rfl, rfl, rfl⟩ := hk
      exact ⟨⟨k, s, t⟩, rfl, trivial⟩)
def w55 (l : List Key) : Prop := l.length * 48 ≤ 140737488351232 ∧ ∀ x ∈ l, w107 x
theorem rd55 (W : World) : Reads Try.prog W 55 (Kd.slice 107 kKey) w55 := RD.reads_slice (B := 48) Try.underlying55 (rd107 W) (by kernel_rfl) (by kernel_rfl)
def w69 (x : List Key × Int) : Prop := w55 x.1 ∧ (Lit.int .u64 x.2).wf = true
theorem rd69 (W : World) : Reads Try.prog W 69 kRing w69 :=
  RD.reads_struct Try.underlying69 (show RD.ReadsF _ _ [_, _] 0 _ _ from (RD.readsF_cons (rd55 _) rfl (by kernel_rfl) (RD.readsF_one (RD.reads_int Try.underlying67) rfl (by kernel_rfl)))) (by kernel_rfl) id id (fun _ => rfl)
def w72 (x : StepT) : Prop := (Lit.int .i64 x.1).wf = true ∧ w70 x.2.1 ∧ (Lit.int .i64 x.2.2.1).wf = true ∧ (Lit.int .u64 x.2.2.2.1).wf = true ∧ w69 x.2.2.2.2
theorem rd72 (W : World) : Reads Try.prog W 72 kStep w72 :=
  RD.reads_struct Try.underlying72 (show RD.ReadsF _ _ [_, _, _, _, _] 0 _ _ from (RD.readsF_cons (RD.reads_int Try.underlying3) rfl (by kernel_rfl) (RD.readsF_cons (rd70 _) rfl (by kernel_rfl) (RD.readsF_cons (RD.reads_int Try.underlying2) rfl (by kernel_rfl) (RD.readsF_cons (RD.reads_int Try.underlying67) rfl (by kernel_rfl) (RD.readsF_one (rd69 _) rfl (by kernel_rfl))))))) (by kernel_rfl) id id (fun _ => rfl)
def w22 (l : List StepT) : Prop := l.length * 88 ≤ 140737488351232 ∧ ∀ x ∈ l, w72 x
theorem rd22 (W : World) : Reads Try.prog W 22 (Kd.slice 72 kStep) w22 := RD.reads_slice (B := 88) Try.underlying22 (rd72 W) (by kernel_rfl) (by kernel_rfl)
theorem at_Step {w : World} {A : Option Addr} {l : List StepT} (h : kStep.C w A l.length l) (hwf : ∀ x ∈ l, w72 x) {i : Nat} (hi : i < l.length) :
    ∃ ad, A = some ad ∧ ∃ (act : Int) (s : Bs 32) (tm kid : Int) (ks : List Key) (next : Int) (B : Option Addr) (b : Nat), At w (ad.add (i * 37)) (stepCs act s tm kid (.slice B ks.length b) next) ∧ kKey.C w B ks.length ks ∧ ks.length ≤ b ∧ 0 ≤ next ∧ next < 18446744073709551616 ∧ 0 ≤ kid := by
  obtain ⟨ad, c, e, _, hK, hc⟩ := Kd.C_get h (0, zBs 32, 0, 0, [], 0) (i : Int) (by omega) (by omega)
  have hm : l.getD (i : Int).toNat (0, zBs 32, 0, 0, [], 0) ∈ l := by
    rw [show (i : Int).toNat = i from rfl, List.getD_eq_getElem?_getD, List.getElem?_eq_getElem hi]
    exact List.getElem_mem hi
  have hw := hwf _ hm
  rw [show (i : Int).toNat = i from rfl] at hK hc hw
  generalize l.getD i (0, zBs 32, 0, 0, [], 0) = x at hK hw
  obtain ⟨act, s, tm, kid, ks, next⟩ := x
  obtain ⟨c1, r1, rfl, rfl, c2, r2, rfl, rfl, c3, r3, rfl, rfl, c4, r4, rfl, rfl, c5, c6, rfl, ⟨B, b, rfl, hb, hB⟩, rfl⟩ := hK
  have hnx := RD.wf_u64 hw.2.2.2.2.2
  refine ⟨ad, e, act, s, tm, kid, ks, next, B, b, fun j v hv => ?_, hB, hb, hnx.1, hnx.2, (RD.wf_u64 hw.2.2.2.1).1⟩
  rw [Addr.add_add]
  exact hc j v hv
/-! ### The calls, by what they tell -/
section
variable {ks : List Key} {next : Int} {q : Rg} {n : Int}
theorem rot_q {s : Bs 32} {t : Int} (hq : rotateF ⟨ks, next⟩ s t = (q, n)) (A : Option Addr) (c : Nat) (w : World) (hr : kKey.C w A ks.length ks) (hc : ks.length ≤ c) (hn : 0 ≤ next) :
    Calls Try.prog 12 #[.agg #[.slice A ks.length c, .int .u64 next], .agg s.cs.toArray, .int .i64 t] w fun e w' => Tells2 e w w' q n := by
  have := rotate_c ⟨ks, next⟩ A c s t w ⟨hr, hc⟩ hn
  rw [hq] at this
  exact this
theorem rrot_q {s : Bs 32} {t : Int} (hq : rotateF ⟨ks, next⟩ s t = (q, n)) (A : Option Addr) (c : Nat) (w : World) (hr : kKey.C w A ks.length ks) (hc : ks.length ≤ c) (hn : 0 ≤ next) :
    Calls Try.prog 11 #[.agg #[.slice A ks.length c, .int .u64 next], .agg s.cs.toArray, .int .i64 t] w fun e w' => Tells2 e w w' q n := by
  have := refRotate_any ks A c next s t w hr hc hn
  rw [hq] at this
  exact this
theorem dis_q {s : Bs 32} {kid : Int} (hq : distrustF ⟨ks, next⟩ kid s = (q, n)) (A : Option Addr) (c : Nat) (w : World) (hr : kKey.C w A ks.length ks) (hc : ks.length ≤ c) (hn : 0 ≤ next) :
    Calls Try.prog 16 #[.agg #[.slice A ks.length c, .int .u64 next], .int .u64 kid, .agg s.cs.toArray] w fun e w' => Tells2 e w w' q n := by
  have := distrust_c ⟨ks, next⟩ A c kid s w ⟨hr, hc⟩ hn
  rw [hq] at this
  exact this
theorem rdis_q {s : Bs 32} {kid : Int} (hq : distrustF ⟨ks, next⟩ kid s = (q, n)) (A : Option Addr) (c : Nat) (w : World) (hr : kKey.C w A ks.length ks) (hc : ks.length ≤ c) (hn : 0 ≤ next) :
    Calls Try.prog 15 #[.agg #[.slice A ks.length c, .int .u64 next], .int .u64 kid, .agg s.cs.toArray] w fun e w' => Tells2 e w w' q n := by
  have := refDistrust_any ks A c next kid s w hr hc hn
  rw [hq] at this
  exact this
theorem pru_q {t : Int} (hq : pruneF ⟨ks, next⟩ t = q) (A : Option Addr) (c : Nat) (w : World) (hr : kKey.C w A ks.length ks) (hc : ks.length ≤ c) :
    Calls Try.prog 14 #[.agg #[.slice A ks.length c, .int .u64 next], .int .i64 t] w fun e w' => Tells e w w' q := by
  have := prune_c ⟨ks, next⟩ A c t w ⟨hr, hc⟩
  rw [hq] at this
  exact this
theorem rpru_q {t : Int} (hq : pruneF ⟨ks, next⟩ t = q) (A : Option Addr) (c : Nat) (w : World) (hr : kKey.C w A ks.length ks) (hc : ks.length ≤ c) :
    Calls Try.prog 13 #[.agg #[.slice A ks.length c, .int .u64 next], .int .i64 t] w fun e w' => Tells e w w' q := by
  have := refPrune_any ks A c next t w hr hc
  rw [hq] at this
  exact this
theorem eq_q (q : Rg) (A B : Option Addr) (c d : Nat) (w : World) (hr : RO w A c q) (hq : RO w B d q) :
    Calls Try.prog 21 #[.agg #[.slice A q.keys.length c, .int .u64 q.next], .agg #[.slice B q.keys.length d, .int .u64 q.next]] w fun e w' => e = .returned (.bool true) ∧ Below w.heap.size w w' := by
  have := eqRing_any q q A B c d w hr.rk hq.rk
  rwa [decide_eq_true rfl] at this
end
theorem rf_sl_22_37 : sl? Try.prog 22 37 = true := by kernel_rfl
theorem rf_row_72_37 : row? Try.prog 72 37 = true := by kernel_rfl
theorem rf_fa_72_4_35 : fa? Try.prog 72 4 35 = true := by kernel_rfl
theorem rf_row_69_2 : row? Try.prog 69 2 = true := by kernel_rfl
theorem rf_fa_69_0_0 : fa? Try.prog 69 0 0 = true := by kernel_rfl
theorem rf_one_55 : one? Try.prog 55 = true := by kernel_rfl
theorem rf_sl_55_34 : sl? Try.prog 55 34 = true := by kernel_rfl
theorem rf_ent_8 : ent? Try.prog 8 = true := by kernel_rfl
theorem rf_fa_72_1_1 : fa? Try.prog 72 1 1 = true := by kernel_rfl
theorem rf_row_70_32 : row? Try.prog 70 32 = true := by kernel_rfl
theorem rf_fa_72_2_33 : fa? Try.prog 72 2 33 = true := by kernel_rfl
theorem rf_one_2 : one? Try.prog 2 = true := by kernel_rfl
theorem rf_ent_12 : ent? Try.prog 12 = true := by kernel_rfl
theorem rf_ent_11 : ent? Try.prog 11 = true := by kernel_rfl
theorem rf_ent_21 : ent? Try.prog 21 = true := by kernel_rfl
theorem rf_ent_22 : ent? Try.prog 22 = true := by kernel_rfl
theorem rf_fa_72_3_34 : fa? Try.prog 72 3 34 = true := by kernel_rfl
theorem rf_one_67 : one? Try.prog 67 = true := by kernel_rfl
theorem rf_ent_16 : ent? Try.prog 16 = true := by kernel_rfl
theorem rf_ent_15 : ent? Try.prog 15 = true := by kernel_rfl
theorem rf_follows_mixedOrders : Try.prog.follows .mixedOrders = true := by kernel_rfl
theorem rf_ent_14 : ent? Try.prog 14 = true := by kernel_rfl
theorem rf_ent_13 : ent? Try.prog 13 = true := by kernel_rfl
theorem rf_ent_17 : ent? Try.prog 17 = true := by kernel_rfl
theorem rf_ent_19 : ent? Try.prog 19 = true := by kernel_rfl
theorem rf_ent_26 : ent? Try.prog 26 = true := by kernel_rfl
set_option maxHeartbeats 4000000 in
set_option maxRecDepth 100000 in
theorem forms_any (l : List StepT) (A : Option Addr) (c : Nat) (w : World) (hr : kStep.C w A l.length l) (hc : l.length ≤ c) (hwf : ∀ x ∈ l, w72 x) :
    Calls Try.prog 4 #[.slice A l.length c] w fun e w' => e = .returned (.bool true) ∧ Below w.heap.size w w' := by
 refine calls_start Try.func4 rfl rfl rfl (fun a F => ?_)
 have M : Mm w w [] := Mm.nil w
 refine wp_seq ?_
 refine wp_region_lit ?_
 refine list_val F (wn rfl) rfl rfl (.bool false) (ex_assign _ rfl _ rfl) ?_; clear F a; intro a F
 refine wpList_nil ?_
 replace F : Fr 115 a [(0, .slice A l.length c), (2, .bool false)] := F.keep ⟨rfl, rfl, trivial⟩
 refine then_n ?_
 refine wp_seq ?_
 refine wp_seq ?_
 refine wp_region_lit ?_
 refine list_val F (wn rfl) rfl rfl (.int .i64 0) (ex_assign _ rfl _ rfl) ?_; clear F a; intro a F
 refine wpList_nil ?_
 replace F : Fr 115 a [(0, .slice A l.length c), (2, .bool false), (3, .int .i64 0)] := F.keep ⟨rfl, rfl, rfl, trivial⟩
 refine then_n ?_
 refine wp_block ?_
 refine wp_loopN (fun mq ar wr => ∃ (i : Nat), Fr 115 ar [(0, .slice A l.length c), (2, .bool false), (3, .int .i64 i)] ∧ Mm w wr [] ∧ i ≤ l.length ∧ i ≤ 60 ∧ mq + i = l.length) l.length ?_ ?_
 ·
  exact ⟨0, F.keep ⟨rfl, rfl, rfl, trivial⟩, M, (Nat.zero_le _), (Nat.zero_le _), (by omega)⟩
 clear F M a
 rintro mq a v ⟨i, F, M, hi, hi2, hq⟩; try clear w
 by_cases h1 : i < l.length
 ·
  by_cases h2 : i < 60
  ·
   obtain ⟨adt, rfl, act, s, tm, kid, ks, next, B, b, zi, hB, hBb, hn, hnx, hkd⟩ := at_Step hr hwf h1
   refine wp_seq ?_
   refine wp_seq ?_
   refine wp_region_lit ?_
   refine list_val F (wn rfl) rfl rfl (.int .i64 i) (ex_move _ rfl _ (F.e rfl)) ?_; clear F a; intro a F
   refine list_val F (wn rfl) rfl rfl (.slice (some adt) l.length c) (ex_move _ rfl _ (F.e rfl)) ?_; clear F a; intro a F
   refine list_val F (wn rfl) rfl rfl (.int .i64 ((l.length : Nat) : Int)) (ex_len _ _ rfl 37 rf_sl_22_37 _ _ _ (F.e rfl)) ?_; clear F a; intro a F
   refine list_val F (wn rfl) rfl rfl (.bool true) (ex_bin .lss _ _ _ _ rfl .i64 _ _ (F.e rfl) (F.e rfl) _ (b_lss (decide_eq_true (by omega)))) ?_; clear F a; intro a F
   refine list_val F (wn rfl) rfl rfl (.bool true) (ex_move _ rfl _ (F.e rfl)) ?_; clear F a; intro a F
   refine list_val F (F.wants 15 true rfl (by kernel_rfl) rfl true rfl) rfl rfl (.int .i64 i) (ex_move _ rfl _ (F.e rfl)) ?_; clear F a; intro a F
   refine list_val F (F.wants 15 true rfl (by kernel_rfl) rfl true rfl) rfl rfl (.bool true) (ex_bin .lss _ _ _ _ rfl .i64 _ _ (F.e rfl) rfl _ (b_lss (decide_eq_true (by omega)))) ?_; clear F a; intro a F
   refine list_val F (wn rfl) rfl rfl (.bool true) (ex_pick_t _ _ _ rfl (F.e rfl) _ (F.e rfl)) ?_; clear F a; intro a F
   refine wpList_nil ?_
   replace F : Fr 115 a [(0, .slice (some adt) l.length c), (2, .bool false), (3, .int .i64 i), (18, .bool true)] := F.keep ⟨rfl, rfl, rfl, rfl, trivial⟩
   refine then_n ?_
   refine wp_cond_true (F.e rfl) ?_
   refine wp_skip ?_
   refine then_n ?_
   refine wp_seq ?_
   refine wp_block ?_
   refine wp_seq ?_
   refine wp_region_lit ?_
   refine list_val F (wn rfl) rfl rfl (.slice (some adt) l.length c) (ex_move _ rfl _ (F.e rfl)) ?_; clear F a; intro a F
   refine list_val F (wn rfl) rfl rfl (.int .i64 i) (ex_move _ rfl _ (F.e rfl)) ?_; clear F a; intro a F
   refine list_val F (wn rfl) rfl rfl (.pointer (some (adt.add (i * 37)))) (ex_ix _ _ _ rfl 37 rf_sl_22_37 adt _ _ (F.e rfl) .i64 _ (F.e rfl) i rfl (by omega) (adt.add (i * 37)) rfl) ?_; clear F a; intro a F
   refine list_val F (wn rfl) rfl rfl (.agg ((stepCs act s tm kid (.slice B ks.length b) next).toArray)) (ex_load _ _ rfl _ (F.e rfl) _ (lvr (cs := stepCs act s tm kid (.slice B ks.length b) next) (by rw [step_len]; exact rf_row_72_37) ((zi.below M.bel)))) ?_; clear F a; intro a F
   refine list_do (wn rfl) (fun K hK => ?_)
   refine ow_alloc F M rfl rfl 72 rfl (.agg ((stepCs 0 (zBs 32) 0 0 (.slice none 0 0) 0).toArray)) z72 ((stepCs 0 (zBs 32) 0 0 (.slice none 0 0) 0).toArray) rfl ?_
   clear F M a; intro a g4 u F M hb hg
   refine hK _ _ ?_
   clear hK K
   clear hb hg; try clear v
   refine list_do (wn rfl) (fun K hK => ?_)
   refine ow_put F M rfl 72 _ _ rfl 0 _ ((stepCs 0 (zBs 32) 0 0 (.slice none 0 0) 0).toArray) _ rfl (F.e rfl) ((stepCs act s tm kid (.slice B ks.length b) next).toArray) (F.e rfl) (by rw [step_size]; exact sz_row rf_row_72_37) (by rw [step_size, step_size]) (step_one rfl) ?_
   clear F a; have Mo := M; clear M; intro a v F M hgr
   refine hK _ _ ?_
   clear hK K
   clear Mo hgr; try clear u
   replace M : Mm w v [⟨g4, (stepCs act s tm kid (.slice B ks.length b) next).toArray, 72⟩] := M
   refine wpList_nil ?_
   replace F : Fr 115 a [(0, .slice (some adt) l.length c), (2, .bool false), (3, .int .i64 i), (4, .pointer (some ⟨g4, 0, none⟩)), (18, .bool true)] := F.keep ⟨rfl, rfl, rfl, rfl, rfl, trivial⟩
   refine then_n ?_
   refine wp_seq ?_
   refine wp_region_lit ?_
   refine list_val F (wn rfl) rfl rfl (.pointer (some ⟨g4, 35, none⟩)) (ex_fa _ _ _ rfl _ (F.e rfl) 35 rf_fa_72_4_35 ⟨g4, 35, none⟩ rfl) ?_; clear F a; intro a F
   refine list_val F (wn rfl) rfl rfl (.agg #[.slice B ks.length b, .int .u64 next]) (ex_load _ _ rfl _ (F.e rfl) _ (lvr (cs := [.slice B ks.length b, .int .u64 next]) rf_row_69_2 (step_raw (M.at (i := 0) rfl)))) ?_; clear F a; intro a F
   refine list_do (wn rfl) (fun K hK => ?_)
   refine ow_alloc F M rfl rfl 69 rfl (.agg #[.slice none 0 0, .int .u64 0]) z69 #[.slice none 0 0, .int .u64 0] rfl ?_
   clear F M a; intro a g5 u F M hb hg
   refine hK _ _ ?_
   clear hK K
   clear hb hg; try clear v
   refine list_do (wn rfl) (fun K hK => ?_)
   refine ow_put F M rfl 69 _ _ rfl 0 _ #[.slice none 0 0, .int .u64 0] _ rfl (F.e rfl) #[.slice B ks.length b, .int .u64 next] (F.e rfl) (sz_row (m := 2) rf_row_69_2) rfl (by simp [Value.oneCell']) ?_
   clear F a; have Mo := M; clear M; intro a v F M hgr
   refine hK _ _ ?_
   clear hK K
   clear Mo hgr; try clear u
   replace M : Mm w v [⟨g5, #[.slice B ks.length b, .int .u64 next], 69⟩, ⟨g4, (stepCs act s tm kid (.slice B ks.length b) next).toArray, 72⟩] := M
   refine wpList_nil ?_
   replace F : Fr 115 a [(0, .slice (some adt) l.length c), (2, .bool false), (3, .int .i64 i), (4, .pointer (some ⟨g4, 0, none⟩)), (5, .pointer (some ⟨g5, 0, none⟩)), (18, .bool true)] := F.keep ⟨rfl, rfl, rfl, rfl, rfl, rfl, trivial⟩
   refine then_n ?_
   refine wp_seq ?_
   refine wp_seq ?_
   by_cases h3 : 40 < ks.length
   ·
    refine wp_region_lit ?_
    refine list_val F (wn rfl) rfl rfl (.pointer (some ⟨g5, 0, none⟩)) (ex_fa _ _ _ rfl _ (F.e rfl) 0 rf_fa_69_0_0 ⟨g5, 0, none⟩ rfl) ?_; clear F a; intro a F
    refine list_val F (wn rfl) rfl rfl (.slice B ks.length b) (ex_load _ _ rfl _ (F.e rfl) _ (lv1 rf_one_55 (M.cell (i := 0) rfl (j := 0) rfl))) ?_; clear F a; intro a F
    refine list_val F (wn rfl) rfl rfl (.int .i64 ((ks.length : Nat) : Int)) (ex_len _ _ rfl 34 rf_sl_55_34 _ _ _ (F.e rfl)) ?_; clear F a; intro a F
    refine list_val F (wn rfl) rfl rfl (.bool true) (ex_bin .gtr _ _ _ _ rfl .i64 _ _ (F.e rfl) rfl _ (b_gtr (decide_eq_true (by omega)))) ?_; clear F a; intro a F
    refine wpList_nil ?_
    replace F : Fr 115 a [(0, .slice (some adt) l.length c), (2, .bool false), (3, .int .i64 i), (4, .pointer (some ⟨g4, 0, none⟩)), (5, .pointer (some ⟨g5, 0, none⟩)), (18, .bool true), (30, .bool true)] := F.keep ⟨rfl, rfl, rfl, rfl, rfl, rfl, rfl, trivial⟩
    refine then_n ?_
    refine wp_cond_true (F.e rfl) ?_
    refine wp_exit ?_
    refine then_x ?_
    refine in_hit ?_
    refine then_n ?_
    refine wp_region_lit ?_
    refine list_val F (wn rfl) rfl rfl (.int .i64 i) (ex_move _ rfl _ (F.e rfl)) ?_; clear F a; intro a F
    refine list_val F (wn rfl) rfl rfl (.int .i64 (i + 1)) (ex_bin .add _ _ _ _ rfl .i64 _ _ (F.e rfl) rfl _ (b_add (w_i64 (by omega) (by omega)))) ?_; clear F a; intro a F
    refine list_val F (wn rfl) rfl rfl (.int .i64 (i + 1)) (ex_assign _ rfl _ (F.e rfl)) ?_; clear F a; intro a F
    refine wpList_nil ?_
    replace F : Fr 115 a [(0, .slice (some adt) l.length c), (2, .bool false), (3, .int .i64 (i + 1)), (4, .pointer (some ⟨g4, 0, none⟩)), (5, .pointer (some ⟨g5, 0, none⟩)), (18, .bool true), (30, .bool true)] := F.keep ⟨rfl, rfl, rfl, rfl, rfl, rfl, rfl, trivial⟩
    refine then_n ?_
    exact ⟨l.length - (i + 1), by omega, (i + 1), F.keep ⟨rfl, rfl, rfl, trivial⟩, (by refine M.pick' [] _ ?_ (by decide); exact trivial), (by omega), (by omega), (by omega)⟩
   obtain ⟨q1, n1, hq1⟩ : ∃ q n, rotateF ⟨ks, next⟩ s tm = (q, n) := ⟨_, _, rfl⟩
   obtain ⟨q2, n2, hq2⟩ : ∃ q n, distrustF ⟨ks, next⟩ kid s = (q, n) := ⟨_, _, rfl⟩
   obtain ⟨q3, hq3⟩ : ∃ q, pruneF ⟨ks, next⟩ tm = q := ⟨_, rfl⟩
   refine wp_region_lit ?_
   refine list_val F (wn rfl) rfl rfl (.pointer (some ⟨g5, 0, none⟩)) (ex_fa _ _ _ rfl _ (F.e rfl) 0 rf_fa_69_0_0 ⟨g5, 0, none⟩ rfl) ?_; clear F a; intro a F
   refine list_val F (wn rfl) rfl rfl (.slice B ks.length b) (ex_load _ _ rfl _ (F.e rfl) _ (lv1 rf_one_55 (M.cell (i := 0) rfl (j := 0) rfl))) ?_; clear F a; intro a F
   refine list_val F (wn rfl) rfl rfl (.int .i64 ((ks.length : Nat) : Int)) (ex_len _ _ rfl 34 rf_sl_55_34 _ _ _ (F.e rfl)) ?_; clear F a; intro a F
   refine list_val F (wn rfl) rfl rfl (.bool false) (ex_bin .gtr _ _ _ _ rfl .i64 _ _ (F.e rfl) rfl _ (b_gtr (decide_eq_false (by omega)))) ?_; clear F a; intro a F
   refine wpList_nil ?_
   replace F : Fr 115 a [(0, .slice (some adt) l.length c), (2, .bool false), (3, .int .i64 i), (4, .pointer (some ⟨g4, 0, none⟩)), (5, .pointer (some ⟨g5, 0, none⟩)), (18, .bool true), (30, .bool false)] := F.keep ⟨rfl, rfl, rfl, rfl, rfl, rfl, rfl, trivial⟩
   refine then_n ?_
   refine wp_cond_false (F.e rfl) ?_
   refine wp_skip ?_
   refine then_n ?_
   refine wp_seq ?_
   refine wp_region_lit ?_
   refine list_val F (wn rfl) rfl rfl (.agg #[.slice B ks.length b, .int .u64 next]) (ex_load _ _ rfl _ (F.e rfl) _ (lvr (cs := [.slice B ks.length b, .int .u64 next]) rf_row_69_2 (M.at (i := 0) rfl))) ?_; clear F a; intro a F
   refine list_do (wn rfl) (fun K hK => ?_)
   have hcl := (Kd.C_below hB M.bel)
   refine ow_call rfl rfl F 8 #[.agg #[.slice B ks.length b, .int .u64 next]] (ex_call 8 _ _ rfl rfl rf_ent_8 _ (map1 (F.e rfl))) (lent_any ks _ b next _ hcl hBb (by omega)) (fun e u hR => ?_)
   obtain ⟨A_16, cr, he, O_x, hb⟩ := hR
   obtain ⟨gr, sp, rfl, _, M1, hcap, hqc, hcm, hgr0⟩ := Mm.adopt M hb O_x (by rw [marks_len]; omega)
   have hcr : ks.length ≤ cr := by rw [marks_len] at hqc; omega
   refine ⟨.agg #[.slice (some ⟨gr, 0, none⟩) ks.length cr, .int .u64 next], he, ?_⟩; clear he F a; intro a F
   refine hK _ _ ?_
   clear hK K
   replace M := M.below hb; clear hb; try clear v
   replace M := M1; clear M1 O_x hcl hgr0 hcap
   refine list_do (wn rfl) (fun K hK => ?_)
   refine ow_alloc F M rfl rfl 69 rfl (.agg #[.slice none 0 0, .int .u64 0]) z69 #[.slice none 0 0, .int .u64 0] rfl ?_
   clear F M a; intro a g6 v F M hb hg
   refine hK _ _ ?_
   clear hK K
   clear hb hg; try clear u
   refine list_do (wn rfl) (fun K hK => ?_)
   refine ow_put F M rfl 69 _ _ rfl 0 _ #[.slice none 0 0, .int .u64 0] _ rfl (F.e rfl) #[.slice (some ⟨gr, 0, none⟩) ks.length cr, .int .u64 next] (F.e rfl) (sz_row (m := 2) rf_row_69_2) rfl (by simp [Value.oneCell']) ?_
   clear F a; have Mo := M; clear M; intro a u F M hgr
   refine hK _ _ ?_
   clear hK K
   clear Mo hgr; try clear v
   replace M : Mm w u [⟨g6, #[.slice (some ⟨gr, 0, none⟩) ks.length cr, .int .u64 next], 69⟩, ⟨gr, (((ks ++ marks).flatMap Key.cs ++ sp).toArray), 107⟩, ⟨g5, #[.slice B ks.length b, .int .u64 next], 69⟩, ⟨g4, (stepCs act s tm kid (.slice B ks.length b) next).toArray, 72⟩] := M
   refine wpList_nil ?_
   replace F : Fr 115 a [(0, .slice (some adt) l.length c), (2, .bool false), (3, .int .i64 i), (4, .pointer (some ⟨g4, 0, none⟩)), (5, .pointer (some ⟨g5, 0, none⟩)), (6, .pointer (some ⟨g6, 0, none⟩)), (18, .bool true), (30, .bool false)] := F.keep ⟨rfl, rfl, rfl, rfl, rfl, rfl, rfl, rfl, trivial⟩
   refine then_n ?_
   refine wp_seq ?_
   refine wp_region_lit ?_
   refine list_val F (wn rfl) rfl rfl (.agg #[.slice (some ⟨gr, 0, none⟩) ks.length cr, .int .u64 next]) (ex_load _ _ rfl _ (F.e rfl) _ (lvr (cs := [.slice (some ⟨gr, 0, none⟩) ks.length cr, .int .u64 next]) rf_row_69_2 (M.at (i := 0) rfl))) ?_; clear F a; intro a F
   refine list_val F (wn rfl) rfl rfl (.pointer (some ⟨g4, 1, none⟩)) (ex_fa _ _ _ rfl _ (F.e rfl) 1 rf_fa_72_1_1 ⟨g4, 1, none⟩ rfl) ?_; clear F a; intro a F
   refine list_val F (wn rfl) rfl rfl (.agg s.cs.toArray) (ex_load _ _ rfl _ (F.e rfl) _ (lvr (cs := s.cs) (by rw [Bs.cs_len]; exact rf_row_70_32) (step_sec (M.at (i := 3) rfl)))) ?_; clear F a; intro a F
   refine list_val F (wn rfl) rfl rfl (.pointer (some ⟨g4, 33, none⟩)) (ex_fa _ _ _ rfl _ (F.e rfl) 33 rf_fa_72_2_33 ⟨g4, 33, none⟩ rfl) ?_; clear F a; intro a F
   refine list_val F (wn rfl) rfl rfl (.int .i64 tm) (ex_load _ _ rfl _ (F.e rfl) _ (lv1 rf_one_2 (M.cell (i := 3) rfl (j := 33) step_a33))) ?_; clear F a; intro a F
   refine list_do (wn rfl) (fun K hK => ?_)
   refine ow_call rfl rfl F 12 #[.agg #[.slice (some ⟨gr, 0, none⟩) ks.length cr, .int .u64 next], .agg s.cs.toArray, .int .i64 tm] (ex_call 12 _ _ rfl rfl rf_ent_12 _ (map3 (F.e rfl) (F.e rfl) (F.e rfl))) (rot_q hq1 _ cr _ (lent_C (M.at (i := 1) rfl) (by omega)) hcr hn) (fun e v hR => ?_)
   obtain ⟨A_39, c_39, he, O_39, hb⟩ := hR
   refine ⟨.tuple #[.agg #[.slice A_39 q1.keys.length c_39, .int .u64 q1.next], .int .i64 n1], he, ?_⟩; clear he F a; intro a F
   refine hK _ _ ?_
   clear hK K
   replace M := M.below hb; clear hb; try clear u
   refine list_val F (wn rfl) rfl rfl (.tuple #[.agg #[.slice A_39 q1.keys.length c_39, .int .u64 q1.next], .int .i64 n1]) (ex_move _ rfl _ (F.e rfl)) ?_; clear F a; intro a F
   refine list_val F (wn rfl) rfl rfl (.agg #[.slice A_39 q1.keys.length c_39, .int .u64 q1.next]) (ex_extract _ _ rfl _ (F.e rfl) _ rfl) ?_; clear F a; intro a F
   refine list_val F (wn rfl) rfl rfl (.int .i64 n1) (ex_extract _ _ rfl _ (F.e rfl) _ rfl) ?_; clear F a; intro a F
   refine list_do (wn rfl) (fun K hK => ?_)
   refine ow_alloc F M rfl rfl 69 rfl (.agg #[.slice none 0 0, .int .u64 0]) z69 #[.slice none 0 0, .int .u64 0] rfl ?_
   clear F M a; intro a g7 u F M hb hg
   refine hK _ _ ?_
   clear hK K
   have K_O_39 := O_39
   replace O_39 := O_39.below hb
   have hz_g7 := hb; have lo_g7 := hg
   clear hb hg; try clear v
   refine list_do (wn rfl) (fun K hK => ?_)
   refine ow_put F M rfl 69 _ _ rfl 0 _ #[.slice none 0 0, .int .u64 0] _ rfl (F.e rfl) #[.slice A_39 q1.keys.length c_39, .int .u64 q1.next] (F.e rfl) (sz_row (m := 2) rf_row_69_2) rfl (by simp [Value.oneCell']) ?_
   clear F a; have Mo := M; clear M; intro a v F M hgr
   refine hK _ _ ?_
   clear hK K
   have hzz := S_grown hz_g7 hgr lo_g7
   replace O_39 := K_O_39.below hzz
   clear hzz hz_g7 lo_g7 K_O_39
   clear Mo hgr; try clear u
   replace M : Mm w v [⟨g7, #[.slice A_39 q1.keys.length c_39, .int .u64 q1.next], 69⟩, ⟨g6, #[.slice (some ⟨gr, 0, none⟩) ks.length cr, .int .u64 next], 69⟩, ⟨gr, (((ks ++ marks).flatMap Key.cs ++ sp).toArray), 107⟩, ⟨g5, #[.slice B ks.length b, .int .u64 next], 69⟩, ⟨g4, (stepCs act s tm kid (.slice B ks.length b) next).toArray, 72⟩] := M
   refine list_val F (wn rfl) rfl rfl (.int .i64 n1) (ex_assign _ rfl _ (F.e rfl)) ?_; clear F a; intro a F
   refine wpList_nil ?_
   replace F : Fr 115 a [(0, .slice (some adt) l.length c), (2, .bool false), (3, .int .i64 i), (4, .pointer (some ⟨g4, 0, none⟩)), (5, .pointer (some ⟨g5, 0, none⟩)), (6, .pointer (some ⟨g6, 0, none⟩)), (7, .pointer (some ⟨g7, 0, none⟩)), (8, .int .i64 n1), (18, .bool true), (30, .bool false)] := F.keep ⟨rfl, rfl, rfl, rfl, rfl, rfl, rfl, rfl, rfl, rfl, trivial⟩
   refine then_n ?_
   refine wp_seq ?_
   refine wp_region_lit ?_
   refine list_val F (wn rfl) rfl rfl (.agg #[.slice B ks.length b, .int .u64 next]) (ex_load _ _ rfl _ (F.e rfl) _ (lvr (cs := [.slice B ks.length b, .int .u64 next]) rf_row_69_2 (M.at (i := 3) rfl))) ?_; clear F a; intro a F
   refine list_val F (wn rfl) rfl rfl (.pointer (some ⟨g4, 1, none⟩)) (ex_fa _ _ _ rfl _ (F.e rfl) 1 rf_fa_72_1_1 ⟨g4, 1, none⟩ rfl) ?_; clear F a; intro a F
   refine list_val F (wn rfl) rfl rfl (.agg s.cs.toArray) (ex_load _ _ rfl _ (F.e rfl) _ (lvr (cs := s.cs) (by rw [Bs.cs_len]; exact rf_row_70_32) (step_sec (M.at (i := 4) rfl)))) ?_; clear F a; intro a F
   refine list_val F (wn rfl) rfl rfl (.pointer (some ⟨g4, 33, none⟩)) (ex_fa _ _ _ rfl _ (F.e rfl) 33 rf_fa_72_2_33 ⟨g4, 33, none⟩ rfl) ?_; clear F a; intro a F
   refine list_val F (wn rfl) rfl rfl (.int .i64 tm) (ex_load _ _ rfl _ (F.e rfl) _ (lv1 rf_one_2 (M.cell (i := 4) rfl (j := 33) step_a33))) ?_; clear F a; intro a F
   refine list_do (wn rfl) (fun K hK => ?_)
   refine ow_call rfl rfl F 11 #[.agg #[.slice B ks.length b, .int .u64 next], .agg s.cs.toArray, .int .i64 tm] (ex_call 11 _ _ rfl rfl rf_ent_11 _ (map3 (F.e rfl) (F.e rfl) (F.e rfl))) (rrot_q hq1 _ b _ (Kd.C_below hB M.bel) hBb hn) (fun e u hR => ?_)
   obtain ⟨A_48, c_48, he, O_48, hb⟩ := hR
   refine ⟨.tuple #[.agg #[.slice A_48 q1.keys.length c_48, .int .u64 q1.next], .int .i64 n1], he, ?_⟩; clear he F a; intro a F
   refine hK _ _ ?_
   clear hK K
   replace O_39 := O_39.below hb
   replace M := M.below hb; clear hb; try clear v
   refine list_val F (wn rfl) rfl rfl (.tuple #[.agg #[.slice A_48 q1.keys.length c_48, .int .u64 q1.next], .int .i64 n1]) (ex_move _ rfl _ (F.e rfl)) ?_; clear F a; intro a F
   refine list_val F (wn rfl) rfl rfl (.agg #[.slice A_48 q1.keys.length c_48, .int .u64 q1.next]) (ex_extract _ _ rfl _ (F.e rfl) _ rfl) ?_; clear F a; intro a F
   refine list_val F (wn rfl) rfl rfl (.int .i64 n1) (ex_extract _ _ rfl _ (F.e rfl) _ rfl) ?_; clear F a; intro a F
   refine list_do (wn rfl) (fun K hK => ?_)
   refine ow_alloc F M rfl rfl 69 rfl (.agg #[.slice none 0 0, .int .u64 0]) z69 #[.slice none 0 0, .int .u64 0] rfl ?_
   clear F M a; intro a g9 v F M hb hg
   refine hK _ _ ?_
   clear hK K
   have K_O_39 := O_39
   have K_O_48 := O_48
   replace O_39 := O_39.below hb
   replace O_48 := O_48.below hb
   have hz_g9 := hb; have lo_g9 := hg
   clear hb hg; try clear u
   refine list_do (wn rfl) (fun K hK => ?_)
   refine ow_put F M rfl 69 _ _ rfl 0 _ #[.slice none 0 0, .int .u64 0] _ rfl (F.e rfl) #[.slice A_48 q1.keys.length c_48, .int .u64 q1.next] (F.e rfl) (sz_row (m := 2) rf_row_69_2) rfl (by simp [Value.oneCell']) ?_
   clear F a; have Mo := M; clear M; intro a u F M hgr
   refine hK _ _ ?_
   clear hK K
   have hzz := S_grown hz_g9 hgr lo_g9
   replace O_39 := K_O_39.below hzz
   replace O_48 := K_O_48.below hzz
   clear hzz hz_g9 lo_g9 K_O_39 K_O_48
   clear Mo hgr; try clear v
   replace M : Mm w u [⟨g9, #[.slice A_48 q1.keys.length c_48, .int .u64 q1.next], 69⟩, ⟨g7, #[.slice A_39 q1.keys.length c_39, .int .u64 q1.next], 69⟩, ⟨g6, #[.slice (some ⟨gr, 0, none⟩) ks.length cr, .int .u64 next], 69⟩, ⟨gr, (((ks ++ marks).flatMap Key.cs ++ sp).toArray), 107⟩, ⟨g5, #[.slice B ks.length b, .int .u64 next], 69⟩, ⟨g4, (stepCs act s tm kid (.slice B ks.length b) next).toArray, 72⟩] := M
   refine list_val F (wn rfl) rfl rfl (.int .i64 n1) (ex_assign _ rfl _ (F.e rfl)) ?_; clear F a; intro a F
   refine wpList_nil ?_
   replace F : Fr 115 a [(0, .slice (some adt) l.length c), (2, .bool false), (3, .int .i64 i), (4, .pointer (some ⟨g4, 0, none⟩)), (5, .pointer (some ⟨g5, 0, none⟩)), (6, .pointer (some ⟨g6, 0, none⟩)), (7, .pointer (some ⟨g7, 0, none⟩)), (8, .int .i64 n1), (9, .pointer (some ⟨g9, 0, none⟩)), (10, .int .i64 n1), (18, .bool true), (30, .bool false)] := F.keep ⟨rfl, rfl, rfl, rfl, rfl, rfl, rfl, rfl, rfl, rfl, rfl, rfl, trivial⟩
   refine then_n ?_
   refine wp_seq ?_
   refine wp_seq ?_
   refine wp_region_lit ?_
   refine list_val F (wn rfl) rfl rfl (.agg #[.slice A_39 q1.keys.length c_39, .int .u64 q1.next]) (ex_load _ _ rfl _ (F.e rfl) _ (lvr (cs := [.slice A_39 q1.keys.length c_39, .int .u64 q1.next]) rf_row_69_2 (M.at (i := 1) rfl))) ?_; clear F a; intro a F
   refine list_val F (wn rfl) rfl rfl (.agg #[.slice A_48 q1.keys.length c_48, .int .u64 q1.next]) (ex_load _ _ rfl _ (F.e rfl) _ (lvr (cs := [.slice A_48 q1.keys.length c_48, .int .u64 q1.next]) rf_row_69_2 (M.at (i := 0) rfl))) ?_; clear F a; intro a F
   refine list_do (wn rfl) (fun K hK => ?_)
   refine ow_call rfl rfl F 21 #[.agg #[.slice A_39 q1.keys.length c_39, .int .u64 q1.next], .agg #[.slice A_48 q1.keys.length c_48, .int .u64 q1.next]] (ex_call 21 _ _ rfl rfl rf_ent_21 _ (map2 (F.e rfl) (F.e rfl))) (eq_q q1 _ _ _ _ _ O_39 O_48) (fun e v hR => ?_)
   obtain ⟨he, hb⟩ := hR
   refine ⟨.bool true, he, ?_⟩; clear he F a; intro a F
   refine hK _ _ ?_
   clear hK K
   replace O_39 := O_39.below hb
   replace O_48 := O_48.below hb
   replace M := M.below hb; clear hb; try clear u
   refine list_val F (wn rfl) rfl rfl (.bool false) (ex_not _ _ rfl _ (F.e rfl) _ rfl) ?_; clear F a; intro a F
   refine list_val F (wn rfl) rfl rfl (.bool false) (ex_move _ rfl _ (F.e rfl)) ?_; clear F a; intro a F
   refine list_val F (F.wants 55 false rfl (by kernel_rfl) rfl true rfl) rfl rfl (.int .i64 n1) (ex_move _ rfl _ (F.e rfl)) ?_; clear F a; intro a F
   refine list_do (F.wants 55 false rfl (by kernel_rfl) rfl true rfl) (fun K hK => ?_)
   refine ow_call rfl rfl F 22 #[.int .i64 n1] (ex_call 22 _ _ rfl rfl rf_ent_22 _ (map1 (F.e rfl))) (num_any _ _) (fun e u hR => ?_)
   obtain ⟨he, hw⟩ := hR
   refine ⟨.int .i64 n1, he, ?_⟩; clear he F a; intro a F
   obtain rfl := hw
   refine hK _ _ ?_
   clear hK K
   refine list_val F (F.wants 55 false rfl (by kernel_rfl) rfl true rfl) rfl rfl (.int .i64 n1) (ex_move _ rfl _ (F.e rfl)) ?_; clear F a; intro a F
   refine list_val F (F.wants 55 false rfl (by kernel_rfl) rfl true rfl) rfl rfl (.bool false) (ex_bin .neq _ _ _ _ rfl .i64 _ _ (F.e rfl) (F.e rfl) _ (b_neq (by simp))) ?_; clear F a; intro a F
   refine list_val F (wn rfl) rfl rfl (.bool false) (ex_pick_f _ _ _ rfl (F.e rfl) _ (F.e rfl)) ?_; clear F a; intro a F
   refine wpList_nil ?_
   replace F : Fr 115 a [(0, .slice (some adt) l.length c), (2, .bool false), (3, .int .i64 i), (4, .pointer (some ⟨g4, 0, none⟩)), (5, .pointer (some ⟨g5, 0, none⟩)), (6, .pointer (some ⟨g6, 0, none⟩)), (7, .pointer (some ⟨g7, 0, none⟩)), (8, .int .i64 n1), (9, .pointer (some ⟨g9, 0, none⟩)), (10, .int .i64 n1), (18, .bool true), (30, .bool false), (60, .bool false)] := F.keep ⟨rfl, rfl, rfl, rfl, rfl, rfl, rfl, rfl, rfl, rfl, rfl, rfl, rfl, trivial⟩
   refine then_n ?_
   refine wp_cond_false (F.e rfl) ?_
   refine wp_skip ?_
   refine then_n ?_
   refine wp_seq ?_
   clear O_39
   clear O_48
   refine wp_region_lit ?_
   refine list_val F (wn rfl) rfl rfl (.agg #[.slice (some ⟨gr, 0, none⟩) ks.length cr, .int .u64 next]) (ex_load _ _ rfl _ (F.e rfl) _ (lvr (cs := [.slice (some ⟨gr, 0, none⟩) ks.length cr, .int .u64 next]) rf_row_69_2 (M.at (i := 2) rfl))) ?_; clear F a; intro a F
   refine list_val F (wn rfl) rfl rfl (.pointer (some ⟨g4, 34, none⟩)) (ex_fa _ _ _ rfl _ (F.e rfl) 34 rf_fa_72_3_34 ⟨g4, 34, none⟩ rfl) ?_; clear F a; intro a F
   refine list_val F (wn rfl) rfl rfl (.int .u64 kid) (ex_load _ _ rfl _ (F.e rfl) _ (lv1 rf_one_67 (M.cell (i := 5) rfl (j := 34) step_a34))) ?_; clear F a; intro a F
   refine list_val F (wn rfl) rfl rfl (.pointer (some ⟨g4, 1, none⟩)) (ex_fa _ _ _ rfl _ (F.e rfl) 1 rf_fa_72_1_1 ⟨g4, 1, none⟩ rfl) ?_; clear F a; intro a F
   refine list_val F (wn rfl) rfl rfl (.agg s.cs.toArray) (ex_load _ _ rfl _ (F.e rfl) _ (lvr (cs := s.cs) (by rw [Bs.cs_len]; exact rf_row_70_32) (step_sec (M.at (i := 5) rfl)))) ?_; clear F a; intro a F
   refine list_do (wn rfl) (fun K hK => ?_)
   refine ow_call rfl rfl F 16 #[.agg #[.slice (some ⟨gr, 0, none⟩) ks.length cr, .int .u64 next], .int .u64 kid, .agg s.cs.toArray] (ex_call 16 _ _ rfl rfl rf_ent_16 _ (map3 (F.e rfl) (F.e rfl) (F.e rfl))) (dis_q hq2 _ cr _ (lent_C (M.at (i := 3) rfl) (by omega)) hcr hn) (fun e u hR => ?_)
   obtain ⟨A_67, c_67, he, O_67, hb⟩ := hR
   refine ⟨.tuple #[.agg #[.slice A_67 q2.keys.length c_67, .int .u64 q2.next], .int .i64 n2], he, ?_⟩; clear he F a; intro a F
   refine hK _ _ ?_
   clear hK K
   replace M := M.below hb; clear hb; try clear v
   refine list_val F (wn rfl) rfl rfl (.tuple #[.agg #[.slice A_67 q2.keys.length c_67, .int .u64 q2.next], .int .i64 n2]) (ex_move _ rfl _ (F.e rfl)) ?_; clear F a; intro a F
   refine list_val F (wn rfl) rfl rfl (.agg #[.slice A_67 q2.keys.length c_67, .int .u64 q2.next]) (ex_extract _ _ rfl _ (F.e rfl) _ rfl) ?_; clear F a; intro a F
   refine list_val F (wn rfl) rfl rfl (.int .i64 n2) (ex_extract _ _ rfl _ (F.e rfl) _ rfl) ?_; clear F a; intro a F
   refine list_do (wn rfl) (fun K hK => ?_)
   refine ow_put F M rfl 69 _ _ rfl 1 _ #[.slice A_39 q1.keys.length c_39, .int .u64 q1.next] _ rfl (F.e rfl) #[.slice A_67 q2.keys.length c_67, .int .u64 q2.next] (F.e rfl) (sz_row (m := 2) rf_row_69_2) rfl (by simp [Value.oneCell']) ?_
   clear F a; have Mo := M; clear M; intro a v F M hgr
   refine hK _ _ ?_
   clear hK K
   replace O_67 := O_67.grown (Mo.blk 1 _ rfl) (by show 107 ≠ 69; decide) hgr
   clear Mo hgr; try clear u
   replace M : Mm w v [⟨g9, #[.slice A_48 q1.keys.length c_48, .int .u64 q1.next], 69⟩, ⟨g7, #[.slice A_67 q2.keys.length c_67, .int .u64 q2.next], 69⟩, ⟨g6, #[.slice (some ⟨gr, 0, none⟩) ks.length cr, .int .u64 next], 69⟩, ⟨gr, (((ks ++ marks).flatMap Key.cs ++ sp).toArray), 107⟩, ⟨g5, #[.slice B ks.length b, .int .u64 next], 69⟩, ⟨g4, (stepCs act s tm kid (.slice B ks.length b) next).toArray, 72⟩] := M
   refine list_val F (wn rfl) rfl rfl (.int .i64 n2) (ex_assign _ rfl _ (F.e rfl)) ?_; clear F a; intro a F
   refine wpList_nil ?_
   replace F : Fr 115 a [(0, .slice (some adt) l.length c), (2, .bool false), (3, .int .i64 i), (4, .pointer (some ⟨g4, 0, none⟩)), (5, .pointer (some ⟨g5, 0, none⟩)), (6, .pointer (some ⟨g6, 0, none⟩)), (7, .pointer (some ⟨g7, 0, none⟩)), (8, .int .i64 n2), (9, .pointer (some ⟨g9, 0, none⟩)), (10, .int .i64 n1), (18, .bool true), (30, .bool false), (60, .bool false)] := F.keep ⟨rfl, rfl, rfl, rfl, rfl, rfl, rfl, rfl, rfl, rfl, rfl, rfl, rfl, trivial⟩
   refine then_n ?_
   refine wp_seq ?_
   refine wp_region_lit ?_
   refine list_val F (wn rfl) rfl rfl (.agg #[.slice B ks.length b, .int .u64 next]) (ex_load _ _ rfl _ (F.e rfl) _ (lvr (cs := [.slice B ks.length b, .int .u64 next]) rf_row_69_2 (M.at (i := 4) rfl))) ?_; clear F a; intro a F
   refine list_val F (wn rfl) rfl rfl (.pointer (some ⟨g4, 34, none⟩)) (ex_fa _ _ _ rfl _ (F.e rfl) 34 rf_fa_72_3_34 ⟨g4, 34, none⟩ rfl) ?_; clear F a; intro a F
   refine list_val F (wn rfl) rfl rfl (.int .u64 kid) (ex_load _ _ rfl _ (F.e rfl) _ (lv1 rf_one_67 (M.cell (i := 5) rfl (j := 34) step_a34))) ?_; clear F a; intro a F
   refine list_val F (wn rfl) rfl rfl (.pointer (some ⟨g4, 1, none⟩)) (ex_fa _ _ _ rfl _ (F.e rfl) 1 rf_fa_72_1_1 ⟨g4, 1, none⟩ rfl) ?_; clear F a; intro a F
   refine list_val F (wn rfl) rfl rfl (.agg s.cs.toArray) (ex_load _ _ rfl _ (F.e rfl) _ (lvr (cs := s.cs) (by rw [Bs.cs_len]; exact rf_row_70_32) (step_sec (M.at (i := 5) rfl)))) ?_; clear F a; intro a F
   refine list_do (wn rfl) (fun K hK => ?_)
   refine ow_call rfl rfl F 15 #[.agg #[.slice B ks.length b, .int .u64 next], .int .u64 kid, .agg s.cs.toArray] (ex_call 15 _ _ rfl rfl rf_ent_15 _ (map3 (F.e rfl) (F.e rfl) (F.e rfl))) (rdis_q hq2 _ b _ (Kd.C_below hB M.bel) hBb hn) (fun e u hR => ?_)
   obtain ⟨A_76, c_76, he, O_76, hb⟩ := hR
   refine ⟨.tuple #[.agg #[.slice A_76 q2.keys.length c_76, .int .u64 q2.next], .int .i64 n2], he, ?_⟩; clear he F a; intro a F
   refine hK _ _ ?_
   clear hK K
   replace O_67 := O_67.below hb
   replace M := M.below hb; clear hb; try clear v
   refine list_val F (wn rfl) rfl rfl (.tuple #[.agg #[.slice A_76 q2.keys.length c_76, .int .u64 q2.next], .int .i64 n2]) (ex_move _ rfl _ (F.e rfl)) ?_; clear F a; intro a F
   refine list_val F (wn rfl) rfl rfl (.agg #[.slice A_76 q2.keys.length c_76, .int .u64 q2.next]) (ex_extract _ _ rfl _ (F.e rfl) _ rfl) ?_; clear F a; intro a F
   refine list_val F (wn rfl) rfl rfl (.int .i64 n2) (ex_extract _ _ rfl _ (F.e rfl) _ rfl) ?_; clear F a; intro a F
   refine list_do (wn rfl) (fun K hK => ?_)
   refine ow_put F M rfl 69 _ _ rfl 0 _ #[.slice A_48 q1.keys.length c_48, .int .u64 q1.next] _ rfl (F.e rfl) #[.slice A_76 q2.keys.length c_76, .int .u64 q2.next] (F.e rfl) (sz_row (m := 2) rf_row_69_2) rfl (by simp [Value.oneCell']) ?_
   clear F a; have Mo := M; clear M; intro a v F M hgr
   refine hK _ _ ?_
   clear hK K
   replace O_67 := O_67.grown (Mo.blk 0 _ rfl) (by show 107 ≠ 69; decide) hgr
   replace O_76 := O_76.grown (Mo.blk 0 _ rfl) (by show 107 ≠ 69; decide) hgr
   clear Mo hgr; try clear u
   replace M : Mm w v [⟨g9, #[.slice A_76 q2.keys.length c_76, .int .u64 q2.next], 69⟩, ⟨g7, #[.slice A_67 q2.keys.length c_67, .int .u64 q2.next], 69⟩, ⟨g6, #[.slice (some ⟨gr, 0, none⟩) ks.length cr, .int .u64 next], 69⟩, ⟨gr, (((ks ++ marks).flatMap Key.cs ++ sp).toArray), 107⟩, ⟨g5, #[.slice B ks.length b, .int .u64 next], 69⟩, ⟨g4, (stepCs act s tm kid (.slice B ks.length b) next).toArray, 72⟩] := M
   refine list_val F (wn rfl) rfl rfl (.int .i64 n2) (ex_assign _ rfl _ (F.e rfl)) ?_; clear F a; intro a F
   refine wpList_nil ?_
   replace F : Fr 115 a [(0, .slice (some adt) l.length c), (2, .bool false), (3, .int .i64 i), (4, .pointer (some ⟨g4, 0, none⟩)), (5, .pointer (some ⟨g5, 0, none⟩)), (6, .pointer (some ⟨g6, 0, none⟩)), (7, .pointer (some ⟨g7, 0, none⟩)), (8, .int .i64 n2), (9, .pointer (some ⟨g9, 0, none⟩)), (10, .int .i64 n2), (18, .bool true), (30, .bool false), (60, .bool false)] := F.keep ⟨rfl, rfl, rfl, rfl, rfl, rfl, rfl, rfl, rfl, rfl, rfl, rfl, rfl, trivial⟩
   refine then_n ?_
   refine wp_seq ?_
   refine wp_seq ?_
   refine wp_only (fun ar wr => ∃ (A_93 : Option Addr), ∃ (c_93 : Nat), ∃ (A_97 : Option Addr), ∃ (c_97 : Nat), Fr 115 ar [(0, .slice (some adt) l.length c), (2, .bool false), (3, .int .i64 i), (4, .pointer (some ⟨g4, 0, none⟩)), (5, .pointer (some ⟨g5, 0, none⟩)), (6, .pointer (some ⟨g6, 0, none⟩)), (7, .pointer (some ⟨g7, 0, none⟩)), (8, .int .i64 n2), (9, .pointer (some ⟨g9, 0, none⟩)), (10, .int .i64 n2), (18, .bool true), (30, .bool false), (60, .bool false), (100, .bool false)] ∧ Mm w wr [⟨g9, #[.slice A_76 q2.keys.length c_76, .int .u64 q2.next], 69⟩, ⟨g7, #[.slice A_67 q2.keys.length c_67, .int .u64 q2.next], 69⟩, ⟨g6, #[.slice (some ⟨gr, 0, none⟩) ks.length cr, .int .u64 next], 69⟩, ⟨gr, (((ks ++ marks).flatMap Key.cs ++ sp).toArray), 107⟩, ⟨g5, #[.slice B ks.length b, .int .u64 next], 69⟩, ⟨g4, (stepCs act s tm kid (.slice B ks.length b) next).toArray, 72⟩] ∧ RO wr A_67 c_67 q2 ∧ RO wr A_76 c_76 q2 ∧ RO wr A_93 c_93 q3 ∧ RO wr A_97 c_97 q3) ?_ ?_
   ·
    refine region_anyM rf_follows_mixedOrders M [⟨g4, (stepCs act s tm kid (.slice B ks.length b) next).toArray, 72⟩, ⟨g5, #[.slice B ks.length b, .int .u64 next], 69⟩, ⟨g6, #[.slice (some ⟨gr, 0, none⟩) ks.length cr, .int .u64 next], 69⟩, ⟨g7, #[.slice A_67 q2.keys.length c_67, .int .u64 q2.next], 69⟩, ⟨g9, #[.slice A_76 q2.keys.length c_76, .int .u64 q2.next], 69⟩, ⟨gr, (((ks ++ marks).flatMap Key.cs ++ sp).toArray), 107⟩] (fun w' M => (by refine M.pick' [5, 4, 2, 1, 0, 3] _ ?_ (by decide); exact ⟨rfl, rfl, rfl, rfl, rfl, rfl, trivial⟩)) ?_; clear M; intro wD M hb
    replace O_67 := O_67.below hb
    replace O_76 := O_76.below hb
    clear hb; try clear v
    have hS : Mm w wD [⟨g4, (stepCs act s tm kid (.slice B ks.length b) next).toArray, 72⟩, ⟨g5, #[.slice B ks.length b, .int .u64 next], 69⟩, ⟨g6, #[.slice (some ⟨gr, 0, none⟩) ks.length cr, .int .u64 next], 69⟩, ⟨g7, #[.slice A_67 q2.keys.length c_67, .int .u64 q2.next], 69⟩, ⟨g9, #[.slice A_76 q2.keys.length c_76, .int .u64 q2.next], 69⟩, ⟨gr, (((ks ++ marks).flatMap Key.cs ++ sp).toArray), 107⟩] := (by refine M.pick' [5, 4, 2, 1, 0, 3] _ ?_ (by decide); exact ⟨rfl, rfl, rfl, rfl, rfl, rfl, trivial⟩)
    refine any_val F 0 rfl (by kernel_rfl) (wn rfl) rfl rfl (.agg #[.slice A_67 q2.keys.length c_67, .int .u64 q2.next]) (fun w' hS' => ex_load _ _ rfl _ (F.e rfl) _ (lvr (cs := [.slice A_67 q2.keys.length c_67, .int .u64 q2.next]) rf_row_69_2 (hS'.at (i := 3) rfl))) hS ?_; clear F a; intro a F
    refine any_val F 1 rfl (by kernel_rfl) (wn rfl) rfl rfl (.agg #[.slice A_76 q2.keys.length c_76, .int .u64 q2.next]) (fun w' hS' => ex_load _ _ rfl _ (F.e rfl) _ (lvr (cs := [.slice A_76 q2.keys.length c_76, .int .u64 q2.next]) rf_row_69_2 (hS'.at (i := 4) rfl))) hS ?_; clear F a; intro a F
    refine any_ready [2] (by kernel_rfl) (by simp) ?_
    refine ready_do rfl (wn rfl) (fun K hK => ?_) AllReadyH.nil
    refine ow_call rfl rfl F 21 #[.agg #[.slice A_67 q2.keys.length c_67, .int .u64 q2.next], .agg #[.slice A_76 q2.keys.length c_76, .int .u64 q2.next]] (ex_call 21 _ _ rfl rfl rf_ent_21 _ (map2 (F.e rfl) (F.e rfl))) (eq_q q2 _ _ _ _ _ O_67 O_76) (fun e v hR => ?_)
    obtain ⟨he, hb⟩ := hR
    refine ⟨.bool true, he, ?_⟩; clear he F a; intro a F
    replace hS : Mm w v [⟨g4, (stepCs act s tm kid (.slice B ks.length b) next).toArray, 72⟩, ⟨g5, #[.slice B ks.length b, .int .u64 next], 69⟩, ⟨g6, #[.slice (some ⟨gr, 0, none⟩) ks.length cr, .int .u64 next], 69⟩, ⟨g7, #[.slice A_67 q2.keys.length c_67, .int .u64 q2.next], 69⟩, ⟨g9, #[.slice A_76 q2.keys.length c_76, .int .u64 q2.next], 69⟩, ⟨gr, (((ks ++ marks).flatMap Key.cs ++ sp).toArray), 107⟩] := (by refine (M.below hb).pick' [5, 4, 2, 1, 0, 3] _ ?_ (by decide); exact ⟨rfl, rfl, rfl, rfl, rfl, rfl, trivial⟩)
    refine hK _ _ hS ?_
    clear hK K
    replace O_67 := O_67.below hb
    replace O_76 := O_76.below hb
    replace M := M.below hb; clear hb; try clear wD
    refine any_val F 3 rfl (by kernel_rfl) (wn rfl) rfl rfl (.bool false) (fun w' hS' => ex_not _ _ rfl _ (F.e rfl) _ rfl) hS ?_; clear F a; intro a F
    refine any_val F 4 rfl (by kernel_rfl) (wn rfl) rfl rfl (.bool false) (fun w' hS' => ex_move _ rfl _ (F.e rfl)) hS ?_; clear F a; intro a F
    refine any_val F 5 rfl (by kernel_rfl) (F.wants 83 false rfl (by kernel_rfl) rfl true rfl) rfl rfl (.int .i64 n2) (fun w' hS' => ex_move _ rfl _ (F.e rfl)) hS ?_; clear F a; intro a F
    refine any_val F 7 rfl (by kernel_rfl) (F.wants 83 false rfl (by kernel_rfl) rfl true rfl) rfl rfl (.int .i64 n2) (fun w' hS' => ex_move _ rfl _ (F.e rfl)) hS ?_; clear F a; intro a F
    refine any_ready [6] (by kernel_rfl) (by simp) ?_
    refine ready_do rfl (F.wants 83 false rfl (by kernel_rfl) rfl true rfl) (fun K hK => ?_) AllReadyH.nil
    refine ow_call rfl rfl F 22 #[.int .i64 n2] (ex_call 22 _ _ rfl rfl rf_ent_22 _ (map1 (F.e rfl))) (num_any _ _) (fun e u hR => ?_)
    obtain ⟨he, hw⟩ := hR
    refine ⟨.int .i64 n2, he, ?_⟩; clear he F a; intro a F
    obtain rfl := hw
    replace hS : Mm w v [⟨g4, (stepCs act s tm kid (.slice B ks.length b) next).toArray, 72⟩, ⟨g5, #[.slice B ks.length b, .int .u64 next], 69⟩, ⟨g6, #[.slice (some ⟨gr, 0, none⟩) ks.length cr, .int .u64 next], 69⟩, ⟨g7, #[.slice A_67 q2.keys.length c_67, .int .u64 q2.next], 69⟩, ⟨g9, #[.slice A_76 q2.keys.length c_76, .int .u64 q2.next], 69⟩, ⟨gr, (((ks ++ marks).flatMap Key.cs ++ sp).toArray), 107⟩] := (by refine M.pick' [5, 4, 2, 1, 0, 3] _ ?_ (by decide); exact ⟨rfl, rfl, rfl, rfl, rfl, rfl, trivial⟩)
    refine hK _ _ hS ?_
    clear hK K
    refine any_val F 8 rfl (by kernel_rfl) (F.wants 83 false rfl (by kernel_rfl) rfl true rfl) rfl rfl (.bool false) (fun w' hS' => ex_bin .neq _ _ _ _ rfl .i64 _ _ (F.e rfl) (F.e rfl) _ (b_neq (by simp))) hS ?_; clear F a; intro a F
    refine any_val F 9 rfl (by kernel_rfl) (wn rfl) rfl rfl (.bool false) (fun w' hS' => ex_pick_f _ _ _ rfl (F.e rfl) _ (F.e rfl)) hS ?_; clear F a; intro a F
    refine any_val F 10 rfl (by kernel_rfl) (wn rfl) rfl rfl (.bool false) (fun w' hS' => ex_move _ rfl _ (F.e rfl)) hS ?_; clear F a; intro a F
    refine any_val F 11 rfl (by kernel_rfl) (F.wants 89 false rfl (by kernel_rfl) rfl true rfl) rfl rfl (.agg #[.slice (some ⟨gr, 0, none⟩) ks.length cr, .int .u64 next]) (fun w' hS' => ex_load _ _ rfl _ (F.e rfl) _ (lvr (cs := [.slice (some ⟨gr, 0, none⟩) ks.length cr, .int .u64 next]) rf_row_69_2 (hS'.at (i := 2) rfl))) hS ?_; clear F a; intro a F
    refine any_val F 12 rfl (by kernel_rfl) (F.wants 89 false rfl (by kernel_rfl) rfl true rfl) rfl rfl (.pointer (some ⟨g4, 33, none⟩)) (fun w' hS' => ex_fa _ _ _ rfl _ (F.e rfl) 33 rf_fa_72_2_33 ⟨g4, 33, none⟩ rfl) hS ?_; clear F a; intro a F
    refine any_val F 13 rfl (by kernel_rfl) (F.wants 89 false rfl (by kernel_rfl) rfl true rfl) rfl rfl (.int .i64 tm) (fun w' hS' => ex_load _ _ rfl _ (F.e rfl) _ (lv1 rf_one_2 (hS'.cell (i := 0) rfl (j := 33) step_a33))) hS ?_; clear F a; intro a F
    refine any_val F 15 rfl (by kernel_rfl) (F.wants 89 false rfl (by kernel_rfl) rfl true rfl) rfl rfl (.agg #[.slice B ks.length b, .int .u64 next]) (fun w' hS' => ex_load _ _ rfl _ (F.e rfl) _ (lvr (cs := [.slice B ks.length b, .int .u64 next]) rf_row_69_2 (hS'.at (i := 1) rfl))) hS ?_; clear F a; intro a F
    refine any_val F 16 rfl (by kernel_rfl) (F.wants 89 false rfl (by kernel_rfl) rfl true rfl) rfl rfl (.pointer (some ⟨g4, 33, none⟩)) (fun w' hS' => ex_fa _ _ _ rfl _ (F.e rfl) 33 rf_fa_72_2_33 ⟨g4, 33, none⟩ rfl) hS ?_; clear F a; intro a F
    refine any_val F 17 rfl (by kernel_rfl) (F.wants 89 false rfl (by kernel_rfl) rfl true rfl) rfl rfl (.int .i64 tm) (fun w' hS' => ex_load _ _ rfl _ (F.e rfl) _ (lv1 rf_one_2 (hS'.cell (i := 0) rfl (j := 33) step_a33))) hS ?_; clear F a; intro a F
    refine any_ready [14] (by kernel_rfl) (by simp) ?_
    refine ready_do rfl (F.wants 89 false rfl (by kernel_rfl) rfl true rfl) (fun K hK => ?_) AllReadyH.nil
    refine ow_call rfl rfl F 14 #[.agg #[.slice (some ⟨gr, 0, none⟩) ks.length cr, .int .u64 next], .int .i64 tm] (ex_call 14 _ _ rfl rfl rf_ent_14 _ (map2 (F.e rfl) (F.e rfl))) (pru_q hq3 _ cr _ (lent_C (M.at (i := 3) rfl) (by omega)) hcr) (fun e u hR => ?_)
    obtain ⟨A_93, c_93, he, O_93, hb⟩ := hR
    refine ⟨.agg #[.slice A_93 q3.keys.length c_93, .int .u64 q3.next], he, ?_⟩; clear he F a; intro a F
    replace hS : Mm w u [⟨g4, (stepCs act s tm kid (.slice B ks.length b) next).toArray, 72⟩, ⟨g5, #[.slice B ks.length b, .int .u64 next], 69⟩, ⟨g6, #[.slice (some ⟨gr, 0, none⟩) ks.length cr, .int .u64 next], 69⟩, ⟨g7, #[.slice A_67 q2.keys.length c_67, .int .u64 q2.next], 69⟩, ⟨g9, #[.slice A_76 q2.keys.length c_76, .int .u64 q2.next], 69⟩, ⟨gr, (((ks ++ marks).flatMap Key.cs ++ sp).toArray), 107⟩] := (by refine (M.below hb).pick' [5, 4, 2, 1, 0, 3] _ ?_ (by decide); exact ⟨rfl, rfl, rfl, rfl, rfl, rfl, trivial⟩)
    refine hK _ _ hS ?_
    clear hK K
    replace O_67 := O_67.below hb
    replace O_76 := O_76.below hb
    replace M := M.below hb; clear hb; try clear v
    refine any_ready [18] (by kernel_rfl) (by simp) ?_
    refine ready_do rfl (F.wants 89 false rfl (by kernel_rfl) rfl true rfl) (fun K hK => ?_) AllReadyH.nil
    refine ow_call rfl rfl F 13 #[.agg #[.slice B ks.length b, .int .u64 next], .int .i64 tm] (ex_call 13 _ _ rfl rfl rf_ent_13 _ (map2 (F.e rfl) (F.e rfl))) (rpru_q hq3 _ b _ (Kd.C_below hB M.bel) hBb) (fun e v hR => ?_)
    obtain ⟨A_97, c_97, he, O_97, hb⟩ := hR
    refine ⟨.agg #[.slice A_97 q3.keys.length c_97, .int .u64 q3.next], he, ?_⟩; clear he F a; intro a F
    replace hS : Mm w v [⟨g4, (stepCs act s tm kid (.slice B ks.length b) next).toArray, 72⟩, ⟨g5, #[.slice B ks.length b, .int .u64 next], 69⟩, ⟨g6, #[.slice (some ⟨gr, 0, none⟩) ks.length cr, .int .u64 next], 69⟩, ⟨g7, #[.slice A_67 q2.keys.length c_67, .int .u64 q2.next], 69⟩, ⟨g9, #[.slice A_76 q2.keys.length c_76, .int .u64 q2.next], 69⟩, ⟨gr, (((ks ++ marks).flatMap Key.cs ++ sp).toArray), 107⟩] := (by refine (M.below hb).pick' [5, 4, 2, 1, 0, 3] _ ?_ (by decide); exact ⟨rfl, rfl, rfl, rfl, rfl, rfl, trivial⟩)
    refine hK _ _ hS ?_
    clear hK K
    replace O_67 := O_67.below hb
    replace O_76 := O_76.below hb
    replace O_93 := O_93.below hb
    replace M := M.below hb; clear hb; try clear u
    refine any_ready [19] (by kernel_rfl) (by simp) ?_
    refine ready_do rfl (F.wants 89 false rfl (by kernel_rfl) rfl true rfl) (fun K hK => ?_) AllReadyH.nil
    refine ow_call rfl rfl F 21 #[.agg #[.slice A_93 q3.keys.length c_93, .int .u64 q3.next], .agg #[.slice A_97 q3.keys.length c_97, .int .u64 q3.next]] (ex_call 21 _ _ rfl rfl rf_ent_21 _ (map2 (F.e rfl) (F.e rfl))) (eq_q q3 _ _ _ _ _ O_93 O_97) (fun e u hR => ?_)
    obtain ⟨he, hb⟩ := hR
    refine ⟨.bool true, he, ?_⟩; clear he F a; intro a F
    replace hS : Mm w u [⟨g4, (stepCs act s tm kid (.slice B ks.length b) next).toArray, 72⟩, ⟨g5, #[.slice B ks.length b, .int .u64 next], 69⟩, ⟨g6, #[.slice (some ⟨gr, 0, none⟩) ks.length cr, .int .u64 next], 69⟩, ⟨g7, #[.slice A_67 q2.keys.length c_67, .int .u64 q2.next], 69⟩, ⟨g9, #[.slice A_76 q2.keys.length c_76, .int .u64 q2.next], 69⟩, ⟨gr, (((ks ++ marks).flatMap Key.cs ++ sp).toArray), 107⟩] := (by refine (M.below hb).pick' [5, 4, 2, 1, 0, 3] _ ?_ (by decide); exact ⟨rfl, rfl, rfl, rfl, rfl, rfl, trivial⟩)
    refine hK _ _ hS ?_
    clear hK K
    replace O_67 := O_67.below hb
    replace O_76 := O_76.below hb
    replace O_93 := O_93.below hb
    replace O_97 := O_97.below hb
    replace M := M.below hb; clear hb; try clear v
    refine any_val F 20 rfl (by kernel_rfl) (F.wants 89 false rfl (by kernel_rfl) rfl true rfl) rfl rfl (.bool false) (fun w' hS' => ex_not _ _ rfl _ (F.e rfl) _ rfl) hS ?_; clear F a; intro a F
    refine any_val F 21 rfl (by kernel_rfl) (wn rfl) rfl rfl (.bool false) (fun w' hS' => ex_pick_f _ _ _ rfl (F.e rfl) _ (F.e rfl)) hS ?_; clear F a; intro a F
    refine any_done (by kernel_rfl) ?_
    exact ⟨A_93, c_93, A_97, c_97, F.keep ⟨rfl, rfl, rfl, rfl, rfl, rfl, rfl, rfl, rfl, rfl, rfl, rfl, rfl, rfl, trivial⟩, (by refine M.pick' [0, 1, 2, 3, 4, 5] _ ?_ (by decide); exact ⟨rfl, rfl, rfl, rfl, rfl, rfl, trivial⟩), O_67, O_76, O_93, O_97⟩
   clear F M a O_67 O_76
   intro a u hR; obtain ⟨A_93, c_93, A_97, c_97, F, M, O_67, O_76, O_93, O_97⟩ := hR; try clear v
   refine then_n ?_
   refine wp_cond_false (F.e rfl) ?_
   refine wp_skip ?_
   refine then_n ?_
   refine wp_seq ?_
   clear O_67
   clear O_76
   clear O_93
   clear O_97
   refine wp_region_lit ?_
   refine list_val F (wn rfl) rfl rfl (.agg #[.slice B ks.length b, .int .u64 next]) (ex_load _ _ rfl _ (F.e rfl) _ (lvr (cs := [.slice B ks.length b, .int .u64 next]) rf_row_69_2 (M.at (i := 4) rfl))) ?_; clear F a; intro a F
   refine list_val F (wn rfl) rfl rfl (.pointer (some ⟨g4, 34, none⟩)) (ex_fa _ _ _ rfl _ (F.e rfl) 34 rf_fa_72_3_34 ⟨g4, 34, none⟩ rfl) ?_; clear F a; intro a F
   refine list_val F (wn rfl) rfl rfl (.int .u64 kid) (ex_load _ _ rfl _ (F.e rfl) _ (lv1 rf_one_67 (M.cell (i := 5) rfl (j := 34) step_a34))) ?_; clear F a; intro a F
   refine list_do (wn rfl) (fun K hK => ?_)
   refine ow_call rfl rfl F 17 #[.agg #[.slice B ks.length b, .int .u64 next], .int .u64 kid] (ex_call 17 _ _ rfl rfl rf_ent_17 _ (map2 (F.e rfl) (F.e rfl))) (asks_any ks _ b next kid _ (Kd.C_below hB M.bel) hBb (by omega)) (fun e v hR => ?_)
   obtain ⟨he, hb⟩ := hR
   refine ⟨.bool true, he, ?_⟩; clear he F a; intro a F
   refine hK _ _ ?_
   clear hK K
   replace M := M.below hb; clear hb; try clear u
   refine list_val F (wn rfl) rfl rfl (.bool false) (ex_not _ _ rfl _ (F.e rfl) _ rfl) ?_; clear F a; intro a F
   refine list_val F (wn rfl) rfl rfl (.bool false) (ex_move _ rfl _ (F.e rfl)) ?_; clear F a; intro a F
   refine list_val F (F.wants 106 false rfl (by kernel_rfl) rfl true rfl) rfl rfl (.pointer (some ⟨g6, 0, none⟩)) (ex_fa _ _ _ rfl _ (F.e rfl) 0 rf_fa_69_0_0 ⟨g6, 0, none⟩ rfl) ?_; clear F a; intro a F
   refine list_val F (F.wants 106 false rfl (by kernel_rfl) rfl true rfl) rfl rfl (.slice (some ⟨gr, 0, none⟩) ks.length cr) (ex_load _ _ rfl _ (F.e rfl) _ (lv1 rf_one_55 (M.cell (i := 2) rfl (j := 0) rfl))) ?_; clear F a; intro a F
   refine list_val F (F.wants 106 false rfl (by kernel_rfl) rfl true rfl) rfl rfl (.pointer (some ⟨g5, 0, none⟩)) (ex_fa _ _ _ rfl _ (F.e rfl) 0 rf_fa_69_0_0 ⟨g5, 0, none⟩ rfl) ?_; clear F a; intro a F
   refine list_val F (F.wants 106 false rfl (by kernel_rfl) rfl true rfl) rfl rfl (.slice B ks.length b) (ex_load _ _ rfl _ (F.e rfl) _ (lv1 rf_one_55 (M.cell (i := 4) rfl (j := 0) rfl))) ?_; clear F a; intro a F
   refine list_do (F.wants 106 false rfl (by kernel_rfl) rfl true rfl) (fun K hK => ?_)
   refine ow_call rfl rfl F 19 #[.slice (some ⟨gr, 0, none⟩) ks.length cr, .slice B ks.length b] (ex_call 19 _ _ rfl rfl rf_ent_19 _ (map2 (F.e rfl) (F.e rfl))) (backKeys_any ks _ cr _ b _ (lent_all (M.at (i := 3) rfl) (by omega)) hqc (Kd.C_below hB M.bel) hBb (by omega)) (fun e u hR => ?_)
   obtain ⟨he, hb⟩ := hR
   refine ⟨.bool true, he, ?_⟩; clear he F a; intro a F
   refine hK _ _ ?_
   clear hK K
   replace M := M.below hb; clear hb; try clear v
   refine list_val F (F.wants 106 false rfl (by kernel_rfl) rfl true rfl) rfl rfl (.bool false) (ex_not _ _ rfl _ (F.e rfl) _ rfl) ?_; clear F a; intro a F
   refine list_val F (wn rfl) rfl rfl (.bool false) (ex_pick_f _ _ _ rfl (F.e rfl) _ (F.e rfl)) ?_; clear F a; intro a F
   refine wpList_nil ?_
   replace F : Fr 115 a [(0, .slice (some adt) l.length c), (2, .bool false), (3, .int .i64 i), (4, .pointer (some ⟨g4, 0, none⟩)), (5, .pointer (some ⟨g5, 0, none⟩)), (6, .pointer (some ⟨g6, 0, none⟩)), (7, .pointer (some ⟨g7, 0, none⟩)), (8, .int .i64 n2), (9, .pointer (some ⟨g9, 0, none⟩)), (10, .int .i64 n2), (18, .bool true), (30, .bool false), (60, .bool false), (100, .bool false), (113, .bool false)] := F.keep ⟨rfl, rfl, rfl, rfl, rfl, rfl, rfl, rfl, rfl, rfl, rfl, rfl, rfl, rfl, rfl, trivial⟩
   refine then_n ?_
   refine wp_cond_false (F.e rfl) ?_
   refine wp_skip ?_
   refine in_n ?_
   refine then_n ?_
   refine wp_region_lit ?_
   refine list_val F (wn rfl) rfl rfl (.int .i64 i) (ex_move _ rfl _ (F.e rfl)) ?_; clear F a; intro a F
   refine list_val F (wn rfl) rfl rfl (.int .i64 (i + 1)) (ex_bin .add _ _ _ _ rfl .i64 _ _ (F.e rfl) rfl _ (b_add (w_i64 (by omega) (by omega)))) ?_; clear F a; intro a F
   refine list_val F (wn rfl) rfl rfl (.int .i64 (i + 1)) (ex_assign _ rfl _ (F.e rfl)) ?_; clear F a; intro a F
   refine wpList_nil ?_
   replace F : Fr 115 a [(0, .slice (some adt) l.length c), (2, .bool false), (3, .int .i64 (i + 1)), (4, .pointer (some ⟨g4, 0, none⟩)), (5, .pointer (some ⟨g5, 0, none⟩)), (6, .pointer (some ⟨g6, 0, none⟩)), (7, .pointer (some ⟨g7, 0, none⟩)), (8, .int .i64 n2), (9, .pointer (some ⟨g9, 0, none⟩)), (10, .int .i64 n2), (18, .bool true), (30, .bool false), (60, .bool false), (100, .bool false), (113, .bool false)] := F.keep ⟨rfl, rfl, rfl, rfl, rfl, rfl, rfl, rfl, rfl, rfl, rfl, rfl, rfl, rfl, rfl, trivial⟩
   refine then_n ?_
   exact ⟨l.length - (i + 1), by omega, (i + 1), F.keep ⟨rfl, rfl, rfl, trivial⟩, (by refine M.pick' [] _ ?_ (by decide); exact trivial), (by omega), (by omega), (by omega)⟩
  refine wp_seq ?_
  refine wp_seq ?_
  refine wp_region_lit ?_
  refine list_val F (wn rfl) rfl rfl (.int .i64 i) (ex_move _ rfl _ (F.e rfl)) ?_; clear F a; intro a F
  refine list_val F (wn rfl) rfl rfl (.slice A l.length c) (ex_move _ rfl _ (F.e rfl)) ?_; clear F a; intro a F
  refine list_val F (wn rfl) rfl rfl (.int .i64 ((l.length : Nat) : Int)) (ex_len _ _ rfl 37 rf_sl_22_37 _ _ _ (F.e rfl)) ?_; clear F a; intro a F
  refine list_val F (wn rfl) rfl rfl (.bool true) (ex_bin .lss _ _ _ _ rfl .i64 _ _ (F.e rfl) (F.e rfl) _ (b_lss (decide_eq_true (by omega)))) ?_; clear F a; intro a F
  refine list_val F (wn rfl) rfl rfl (.bool true) (ex_move _ rfl _ (F.e rfl)) ?_; clear F a; intro a F
  refine list_val F (F.wants 15 true rfl (by kernel_rfl) rfl true rfl) rfl rfl (.int .i64 i) (ex_move _ rfl _ (F.e rfl)) ?_; clear F a; intro a F
  refine list_val F (F.wants 15 true rfl (by kernel_rfl) rfl true rfl) rfl rfl (.bool false) (ex_bin .lss _ _ _ _ rfl .i64 _ _ (F.e rfl) rfl _ (b_lss (decide_eq_false (by omega)))) ?_; clear F a; intro a F
  refine list_val F (wn rfl) rfl rfl (.bool false) (ex_pick_t _ _ _ rfl (F.e rfl) _ (F.e rfl)) ?_; clear F a; intro a F
  refine wpList_nil ?_
  replace F : Fr 115 a [(0, .slice A l.length c), (2, .bool false), (3, .int .i64 i), (18, .bool false)] := F.keep ⟨rfl, rfl, rfl, rfl, trivial⟩
  refine then_n ?_
  refine wp_cond_false (F.e rfl) ?_
  refine wp_exit ?_
  refine then_x ?_
  refine then_x ?_
  refine in_hit ?_
  refine then_n ?_
  refine wp_seq ?_
  refine wp_region_lit ?_
  refine list_do (wn rfl) (fun K hK => ?_)
  refine ow_call rfl rfl F 26 #[] (ex_call 26 _ _ rfl rfl rf_ent_26 _ (map0)) (wakes_any _) (fun e u hR => ?_)
  obtain ⟨he, hb⟩ := hR
  refine ⟨.bool true, he, ?_⟩; clear he F a; intro a F
  refine hK _ _ ?_
  clear hK K
  replace M := M.below hb; clear hb; try clear v
  refine list_val F (wn rfl) rfl rfl (.bool true) (ex_assign _ rfl _ (F.e rfl)) ?_; clear F a; intro a F
  refine wpList_nil ?_
  replace F : Fr 115 a [(0, .slice A l.length c), (2, .bool true), (3, .int .i64 i), (18, .bool false)] := F.keep ⟨rfl, rfl, rfl, rfl, trivial⟩
  refine then_n ?_
  refine wp_ret ?_
  exact ret_tmp F rfl rfl ⟨rfl, M.bel⟩
 refine wp_seq ?_
 refine wp_seq ?_
 refine wp_region_lit ?_
 refine list_val F (wn rfl) rfl rfl (.int .i64 i) (ex_move _ rfl _ (F.e rfl)) ?_; clear F a; intro a F
 refine list_val F (wn rfl) rfl rfl (.slice A l.length c) (ex_move _ rfl _ (F.e rfl)) ?_; clear F a; intro a F
 refine list_val F (wn rfl) rfl rfl (.int .i64 ((l.length : Nat) : Int)) (ex_len _ _ rfl 37 rf_sl_22_37 _ _ _ (F.e rfl)) ?_; clear F a; intro a F
 refine list_val F (wn rfl) rfl rfl (.bool false) (ex_bin .lss _ _ _ _ rfl .i64 _ _ (F.e rfl) (F.e rfl) _ (b_lss (decide_eq_false (by omega)))) ?_; clear F a; intro a F
 refine list_val F (wn rfl) rfl rfl (.bool false) (ex_move _ rfl _ (F.e rfl)) ?_; clear F a; intro a F
 refine list_skip F (F.wants 15 false rfl (by kernel_rfl) rfl false rfl) rfl rfl ?_; clear F a; intro a F
 refine list_skip F (F.wants 15 false rfl (by kernel_rfl) rfl false rfl) rfl rfl ?_; clear F a; intro a F
 refine list_val F (wn rfl) rfl rfl (.bool false) (ex_pick_f _ _ _ rfl (F.e rfl) _ rfl) ?_; clear F a; intro a F
 refine wpList_nil ?_
 replace F : Fr 115 a [(0, .slice A l.length c), (2, .bool false), (3, .int .i64 i), (18, .bool false)] := F.keep ⟨rfl, rfl, rfl, rfl, trivial⟩
 refine then_n ?_
 refine wp_cond_false (F.e rfl) ?_
 refine wp_exit ?_
 refine then_x ?_
 refine then_x ?_
 refine in_hit ?_
 refine then_n ?_
 refine wp_seq ?_
 refine wp_region_lit ?_
 refine list_do (wn rfl) (fun K hK => ?_)
 refine ow_call rfl rfl F 26 #[] (ex_call 26 _ _ rfl rfl rf_ent_26 _ (map0)) (wakes_any _) (fun e u hR => ?_)
 obtain ⟨he, hb⟩ := hR
 refine ⟨.bool true, he, ?_⟩; clear he F a; intro a F
 refine hK _ _ ?_
 clear hK K
 replace M := M.below hb; clear hb; try clear v
 refine list_val F (wn rfl) rfl rfl (.bool true) (ex_assign _ rfl _ (F.e rfl)) ?_; clear F a; intro a F
 refine wpList_nil ?_
 replace F : Fr 115 a [(0, .slice A l.length c), (2, .bool true), (3, .int .i64 i), (18, .bool false)] := F.keep ⟨rfl, rfl, rfl, rfl, trivial⟩
 refine then_n ?_
 refine wp_ret ?_
 exact ret_tmp F rfl rfl ⟨rfl, M.bel⟩
end Go.Proofs.Ytnechcibpmjblaa
