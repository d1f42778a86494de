/- The law RingExact of the given program answers true: its walk. Conditions: the steps are read; their numbers are of their kinds. -/
import Derived.Test.YtnechcibpmjblaaRI
import Derived.Test.YtnechcibpmjblaaRF
namespace Go.Proofs.Ytnechcibpmjblaa
open Go.RowKit Go.Proofs.YtnechcibpmjblaaW.PrintWords KB WG RO BK RD
set_option linter.unusedVariables false
set_option linter.unusedSimpArgs false
set_option linter.unnecessarySimpa false
/-! ### The calls, by what they tell: rows made by them -/
theorem RingV.f {w w' : World} {v : Value} {r : Rg} {e : Ending} (he : e = .returned v) (h : RingV w' w.heap.size v r) (hb : Below w.heap.size w w') : TellsF e w w' r := by
  obtain ⟨sl, rfl, hO⟩ := h
  obtain ⟨A, c, rfl⟩ := Kd.R_slice hO
  exact ⟨A, c, he, hO, hb⟩
theorem RingV.f2 {w w' : World} {v : Value} {r : Rg} {e : Ending} {n : Int} (he : e = .returned (.tuple #[v, .int .i64 n])) (h : RingV w' w.heap.size v r) (hb : Below w.heap.size w w') : TellsF2 e w w' r n := by
  obtain ⟨sl, rfl, hO⟩ := h
  obtain ⟨A, c, rfl⟩ := Kd.R_slice hO
  exact ⟨A, c, he, hO, hb⟩
section
variable {ks : List Key} {next : Int} {q : Rg} {n : Int}
theorem fir_o {s : Bs 32} (hq : firstF s = q) (w : World) : Calls Try.prog 10 #[.agg s.cs.toArray] w fun e w' => TellsF e w w' q := by
  subst hq
  exact (first_any s w).mono fun _ _ ⟨v, he, hv, hb⟩ => hv.f he hb
theorem rfir_o {s : Bs 32} (hq : firstF s = q) (w : World) : Calls Try.prog 9 #[.agg s.cs.toArray] w fun e w' => TellsF e w w' q := by
  subst hq
  exact refFirst_own s w
theorem rot_o {s : Bs 32} {t : Int} (hq : rotateF ⟨ks, next⟩ s t = (q, n)) (A : Option Addr) (c : Nat) (w : World) (hr : kKey.C w A ks.length ks) (hc : ks.length ≤ c) (hn : 0 ≤ next) :
    Calls Try.prog 12 #[.agg #[.slice A ks.length c, .int .u64 next], .agg s.cs.toArray, .int .i64 t] w fun e w' => TellsF2 e w w' q n := by
  have h := rotate_any ks A c next t s w hr hc hn
  rw [hq] at h
  exact h.mono fun _ _ ⟨v, he, hv, hb⟩ => hv.f2 he hb
theorem rrot_o {s : Bs 32} {t : Int} (hq : rotateF ⟨ks, next⟩ s t = (q, n)) (A : Option Addr) (c : Nat) (w : World) (hr : kKey.C w A ks.length ks) (hc : ks.length ≤ c) (hn : 0 ≤ next) :
    Calls Try.prog 11 #[.agg #[.slice A ks.length c, .int .u64 next], .agg s.cs.toArray, .int .i64 t] w fun e w' => TellsF2 e w w' q n := by
  have h := refRotate_own ks A c next s t w hr hc hn
  rw [hq] at h
  exact h
theorem dis_o {s : Bs 32} {kid : Int} (hq : distrustF ⟨ks, next⟩ kid s = (q, n)) (A : Option Addr) (c : Nat) (w : World) (hr : kKey.C w A ks.length ks) (hc : ks.length ≤ c) (hn : 0 ≤ next) :
    Calls Try.prog 16 #[.agg #[.slice A ks.length c, .int .u64 next], .int .u64 kid, .agg s.cs.toArray] w fun e w' => TellsF2 e w w' q n := by
  have h := distrust_any ks A c next kid s w hr hc hn
  rw [hq] at h
  exact h.mono fun _ _ ⟨v, he, hv, hb⟩ => hv.f2 he hb
theorem rdis_o {s : Bs 32} {kid : Int} (hq : distrustF ⟨ks, next⟩ kid s = (q, n)) (A : Option Addr) (c : Nat) (w : World) (hr : kKey.C w A ks.length ks) (hc : ks.length ≤ c) (hn : 0 ≤ next) :
    Calls Try.prog 15 #[.agg #[.slice A ks.length c, .int .u64 next], .int .u64 kid, .agg s.cs.toArray] w fun e w' => TellsF2 e w w' q n := by
  have h := refDistrust_own ks A c next kid s w hr hc hn
  rw [hq] at h
  exact h
theorem pru_o {t : Int} (hq : pruneF ⟨ks, next⟩ t = q) (A : Option Addr) (c : Nat) (w : World) (hr : kKey.C w A ks.length ks) (hc : ks.length ≤ c) :
    Calls Try.prog 14 #[.agg #[.slice A ks.length c, .int .u64 next], .int .i64 t] w fun e w' => TellsF e w w' q := by
  have h := prune_any ks A c next t w hr hc
  rw [hq] at h
  exact h.mono fun _ _ ⟨v, he, hv, hb⟩ => hv.f he hb
theorem rpru_o {t : Int} (hq : pruneF ⟨ks, next⟩ t = q) (A : Option Addr) (c : Nat) (w : World) (hr : kKey.C w A ks.length ks) (hc : ks.length ≤ c) :
    Calls Try.prog 13 #[.agg #[.slice A ks.length c, .int .u64 next], .int .i64 t] w fun e w' => TellsF e w w' q := by
  have h := refPrune_own ks A c next t w hr hc
  rw [hq] at h
  exact h
theorem fir_bd {s : Bs 32} (hq : firstF s = q) : q.keys.length ≤ 1 ∧ 0 ≤ q.next := by subst hq; exact ⟨Nat.le_refl _, by show (0 : Int) ≤ 2; decide⟩
theorem rot_bd {s : Bs 32} {t : Int} (hq : rotateF ⟨ks, next⟩ s t = (q, n)) (hn : 0 ≤ next) : q.keys.length ≤ ks.length + 1 ∧ 0 ≤ q.next := by
  have h : q = (rotateF ⟨ks, next⟩ s t).1 := by rw [hq]
  subst h
  unfold rotateF
  split
  · exact ⟨Nat.zero_le _, by decide⟩
  · split
    · exact ⟨Nat.zero_le _, by decide⟩
    · split
      · exact ⟨Nat.zero_le _, by decide⟩
      · refine ⟨?_, by show 0 ≤ next + 1; omega⟩
        show (rotK ks t ++ [_]).length ≤ _
        rw [List.length_append, rotK_len]
        exact Nat.le_refl _
theorem pru_bd {t : Int} (hq : pruneF ⟨ks, next⟩ t = q) (hn : 0 ≤ next) : q.keys.length ≤ ks.length + 1 ∧ 0 ≤ q.next := by
  subst hq
  unfold pruneF
  split
  · exact ⟨Nat.le_succ_of_le (List.length_filter_le ..), hn⟩
  · exact ⟨Nat.zero_le _, by decide⟩
theorem dis_bd {s : Bs 32} {kid : Int} (hq : distrustF ⟨ks, next⟩ kid s = (q, n)) (hn : 0 ≤ next) : q.keys.length ≤ ks.length + 1 ∧ 0 ≤ q.next := by
  have h : q = (distrustF ⟨ks, next⟩ kid s).1 := by rw [hq]
  subst h
  have hd := disK_len ks (findF kid ks next)
  unfold distrustF
  split
  · exact ⟨Nat.zero_le _, by decide⟩
  · split
    · exact ⟨Nat.zero_le _, by decide⟩
    · split
      · exact ⟨Nat.zero_le _, by decide⟩
      · split
        · exact ⟨Nat.le_succ_of_le hd, hn⟩
        · refine ⟨?_, by show 0 ≤ next + 1; omega⟩
          show (disK ks _ ++ [_]).length ≤ _
          rw [List.length_append]
          exact Nat.succ_le_succ hd
end
/-- What was lent is written over. -/
theorem over_own {bx xc : Nat} {XA : Option Addr} {ks : List Key} {w : World} (hO : Ow kKey 107 w bx (.slice XA (ks ++ marks).length xc) (ks ++ marks)) (hl : ks.length ≤ 900000) :
    Calls Try.prog 20 #[.slice XA ks.length xc] w fun e w' => e = .returned (.tuple #[]) ∧ ∃ g cells, w.heap[g]? = some (.cells cells 107 (0, 0)) ∧ bx ≤ g ∧ (Value.slice XA (ks ++ marks).length xc).ownBlock = some g ∧ w.grownBy w' (some g) := by
  have hm := marks_len ks
  obtain ⟨g, sp, rfl, _, hg, hh, hl2, hnc, hcm⟩ := Ow.open (enc := Key.cs) (m := 34) (hl := Key.cs_len) (h1 := Key.cs_one) hO (by decide) (by omega)
  exact (over_any g ks.length xc _ w hh (by rw [List.size_toArray]; exact hl2) (by omega) hcm (by omega)).mono fun e w' ⟨he, hgr⟩ => ⟨he, g, _, hh, hg, rfl, hgr⟩
def farT (ts : List TypeId) (e : TypeId) : List Blk → Prop
  | [] => True
  | b :: l => (b.t ∉ ts ∧ b.t ≠ e) ∧ farT ts e l
theorem farT_get {ts : List TypeId} {e : TypeId} : ∀ {H : List Blk}, farT ts e H → ∀ (i : Nat) (b : Blk), H[i]? = some b → b.t ∉ ts ∧ b.t ≠ e
  | [], _, i, b, h => by simp at h
  | c :: l, ⟨h1, h2⟩, i, b, h => by
    cases i with
    | zero => obtain rfl : c = b := by simpa using h
              exact h1
    | succ i => exact farT_get h2 i b (by simpa using h)
theorem mm_onlyT {base : Nat} {ts : List TypeId} {x : Option Nat} {w u w0 : World} {H : List Blk} {e : TypeId} (M : Mm w0 w H) (ho : Only base ts x w u) (hb0 : w0.heap.size ≤ base) (hbs : base ≤ w.heap.size) (hx : ∀ k, x = some k → ∃ cells, w.heap[k]? = some (.cells cells e (0, 0))) (hT : farT ts e H) : Mm w0 u H :=
  mm_only M ho hb0 hbs (fun i b hb => ⟨(farT_get hT i b hb).1, fun h => by
    obtain ⟨cells, hc⟩ := hx _ h
    rw [M.blk i b hb] at hc
    injection hc with hc
    injection hc with _ hc
    exact (farT_get hT i b hb).2 hc⟩)
theorem build50_0 (w : World) : (Instr.build 50 #[]).run Try.prog w = .ok (.agg (bkC (.slice none 0 0) (.slice none 0 0) 0 0 0 0).toArray) w := by kernel_rfl
theorem build66_0 (w : World) : (Instr.build 66 #[]).run Try.prog w = .ok (.agg (seC (.slice none 0 0)).toArray) w := by kernel_rfl
/-- The book, the seat, the ring: nothing yet. -/
theorem st_new {base gb gs : Nat} {w : World} (h1 : w.heap[gb]? = some (.cells (bkC (.slice none 0 0) (.slice none 0 0) 0 0 0 0).toArray 50 (0, 0))) (h2 : w.heap[gs]? = some (.cells (seC (.slice none 0 0)).toArray 66 (0, 0))) (hb : base ≤ gb) (hs : base ≤ gs) (hw : base ≤ w.heap.size) : St (fun _ => 0) base base gb gs 0 none 0 [] w where
  bk := ⟨none, 0, [], none, 0, [], 0, h1, hb, Ow.nil kS 55 w base, Ow.nil kN 3 w base, ⟨rfl, fun i s k h => by simp at h⟩, ⟨fun i s h => by simp at h, fun k h => by simp at h, Nat.le_refl _, Nat.le_refl _, Nat.zero_le _⟩⟩
  seat := ⟨none, 0, [], h2, Ow.nil kKey 107 w base, fun k h => by cases h⟩
  ring := ⟨Ow.nil kKey 107 w base, fun k h => by cases h⟩
  fresh := fun _ _ => rfl
  lo := hs
  lim := ⟨Nat.le_refl _, hw⟩
/-- Look, at the whole. -/
theorem look_st {own : Nat → Nat} {base lim gb gs tn : Nat} {A : Option Addr} {c : Nat} {ks : List Key} {w : World} (S : St own base lim gb gs tn A c ks w) (htn : tn ≤ 10000000) :
    Calls Try.prog 25 #[.pointer (some ⟨gb, 0, none⟩)] w fun e w' => e = .returned (.bool true) ∧ Below base w w' := by
  obtain ⟨KA, Kc, rows, IA, Ic, ms, us, B⟩ := S.bk
  exact (look_any own base gb KA Kc rows IA Ic ms 0 tn 0 us w B htn).mono fun e w' ⟨he, ⟨_, _, _, _, _, _, _, _, _, _, _, hb⟩⟩ => ⟨he, hb⟩
theorem at_Step2 {w : World} {A : Option Addr} {l : List StepT} (h : kStep.C w A l.length l) (hwf : ∀ x ∈ l, w72 x) {i : Nat} (hi : i < l.length) :
    ∃ ad, A = some ad ∧ ∃ (act : Int) (s : Bs 32) (tm kid : Int) (ks : List Key) (next : Int) (B : Option Addr) (b : Nat), At w (ad.add (i * 37)) (stepCs act s tm kid (.slice B ks.length b) next) ∧ kKey.C w B ks.length ks ∧ ks.length ≤ b ∧ 0 ≤ next ∧ next < 18446744073709551616 ∧ 0 ≤ kid ∧ ks.length * 48 ≤ 140737488351232 := by
  obtain ⟨ad, c, e, _, hK, hc⟩ := Kd.C_get h (0, zBs 32, 0, 0, [], 0) (i : Int) (by omega) (by omega)
  have hm : l.getD (i : Int).toNat (0, zBs 32, 0, 0, [], 0) ∈ l := by
    rw [show (i : Int).toNat = i from rfl, List.getD_eq_getElem?_getD, List.getElem?_eq_getElem hi]
    exact List.getElem_mem hi
  have hw := hwf _ hm
  rw [show (i : Int).toNat = i from rfl] at hK hc hw
  generalize l.getD i (0, zBs 32, 0, 0, [], 0) = x at hK hw
  obtain ⟨act, s, tm, kid, ks, next⟩ := x
  obtain ⟨c1, r1, rfl, rfl, c2, r2, rfl, rfl, c3, r3, rfl, rfl, c4, r4, rfl, rfl, c5, c6, rfl, ⟨B, b, rfl, hb, hB⟩, rfl⟩ := hK
  have hnx := RD.wf_u64 hw.2.2.2.2.2
  refine ⟨ad, e, act, s, tm, kid, ks, next, B, b, fun j v hv => ?_, hB, hb, hnx.1, hnx.2, (RD.wf_u64 hw.2.2.2.1).1, hw.2.2.2.2.1.1⟩
  rw [Addr.add_add]
  exact hc j v hv
theorem lent_le {w : World} {bx n xc : Nat} {XA : Option Addr} {ks : List Key} (h : Ow kKey 107 w bx (.slice XA n xc) (ks ++ marks)) : ks.length ≤ xc := by
  have h2 := (Ow.rd (k := kKey) h).2.2
  rw [marks_len] at h2
  omega
theorem lent_rd {w : World} {bx n xc : Nat} {XA : Option Addr} {ks : List Key} (h : Ow kKey 107 w bx (.slice XA n xc) (ks ++ marks)) : kKey.C w XA ks.length ks := C_take (Ow.rd (k := kKey) h).1 rfl
theorem Ow_ap {w u : World} {b g : Nat} {v : Value} {xs : List Key} (h : Ow kKey 107 w b v xs) (hb : g < b) (hg : w.grownBy u (some g)) : Ow kKey 107 u b v xs := h.far hg fun k hk e => by
  have := (Ow.bound (enc := Key.cs) (m := 34) (hl := Key.cs_len) (h1 := Key.cs_one) h hk).1
  injection e with e
  omega
theorem Ow_lt {w : World} {b k : Nat} {v : Value} {xs : List Key} (h : Ow kKey 107 w b v xs) (hk : v.ownBlock = some k) : b ≤ k ∧ k < w.heap.size := by
  have := Ow.bound (enc := Key.cs) (m := 34) (hl := Key.cs_len) (h1 := Key.cs_one) h hk
  exact ⟨this.1, this.2.1⟩
theorem Ow_cells {w : World} {b k : Nat} {v : Value} {xs : List Key} (h : Ow kKey 107 w b v xs) (hk : v.ownBlock = some k) : ∃ cells, w.heap[k]? = some (.cells cells 107 (0, 0)) := (Ow.bound (enc := Key.cs) (m := 34) (hl := Key.cs_len) (h1 := Key.cs_one) h hk).2.2
set_option maxHeartbeats 1000000 in
set_option maxRecDepth 100000 in
theorem copyKeys_wide (ks : List Key) (A : Option Addr) (c : Nat) (w : World) (hr : kKey.C w A ks.length ks) (hl : ks.length * 48 ≤ 140737488351232) :
    Calls Try.prog 40 #[.slice A ks.length c] w fun e w' => ∃ A' c', e = .returned (.slice A' ks.length c') ∧ Ow kKey 107 w' w.heap.size (.slice A' ks.length c') ks ∧ Below w.heap.size w w' := by
 refine calls_start Try.func40 rfl rfl rfl (fun a F => ?_)
 have M : Mm w w [] := Mm.nil w
 refine wp_seq ?_
 refine wp_region_lit ?_
 refine list_val F (wn rfl) rfl rfl (.slice none 0 0) (ex_assign _ rfl _ rfl) ?_; clear F a; intro a F
 refine wpList_nil ?_
 replace F : Fr 8 a [(0, .slice A ks.length c), (2, .slice none 0 0)] := F.keep ⟨rfl, rfl, trivial⟩
 refine then_n ?_
 refine wp_seq ?_
 refine wp_region_lit ?_
 refine list_val F (wn rfl) rfl rfl (.slice none 0 0) (ex_assign _ rfl _ rfl) ?_; clear F a; intro a F
 refine wpList_nil ?_
 replace F : Fr 8 a [(0, .slice A ks.length c), (2, .slice none 0 0), (3, .slice none 0 0)] := F.keep ⟨rfl, rfl, rfl, trivial⟩
 refine then_n ?_
 refine wp_seq ?_
 refine wp_region_lit ?_
 refine list_val F (wn rfl) rfl rfl (.slice none 0 0) (ex_move _ rfl _ (F.e rfl)) ?_; clear F a; intro a F
 refine list_val F (wn rfl) rfl rfl (.slice A ks.length c) (ex_move _ rfl _ (F.e rfl)) ?_; clear F a; intro a F
 refine list_do (wn rfl) (fun K hK => ?_)
 refine og_app (enc := Key.cs) (m := 34) (hl := Key.cs_len) (h1 := Key.cs_one) F M Try.underlying55 zK zKs (by decide) (by decide) (Nat.le_refl _) M.bel.size trivial rfl rfl rfl _ _ rfl (.slice none 0 0) [] ks ks rfl A ks.length c (F.e rfl) (F.e rfl) (Ow.nil kKey 107 _ _) (Kd.C_below hr M.bel) (by show (0 + ks.length) * 48 ≤ _; omega) ?_
 clear F M a; intro a A1 c1 v F M O_x hg
 refine hK _ _ ?_
 clear hK K
 clear hg; try clear w
 refine list_val F (wn rfl) rfl rfl (.slice A1 ks.length c1) (ex_assign _ rfl _ (F.e rfl)) ?_; clear F a; intro a F
 refine wpList_nil ?_
 replace F : Fr 8 a [(0, .slice A ks.length c), (2, .slice none 0 0), (3, .slice A1 ks.length c1)] := F.keep ⟨rfl, rfl, rfl, trivial⟩
 refine then_n ?_
 refine wp_seq ?_
 refine wp_region_lit ?_
 refine list_val F (wn rfl) rfl rfl (.slice A1 ks.length c1) (ex_move _ rfl _ (F.e rfl)) ?_; clear F a; intro a F
 refine list_val F (wn rfl) rfl rfl (.slice A1 ks.length c1) (ex_assign _ rfl _ (F.e rfl)) ?_; clear F a; intro a F
 refine wpList_nil ?_
 replace F : Fr 8 a [(0, .slice A ks.length c), (2, .slice A1 ks.length c1), (3, .slice A1 ks.length c1)] := F.keep ⟨rfl, rfl, rfl, trivial⟩
 refine then_n ?_
 refine wp_ret ?_
 exact ret_tmp F rfl rfl ⟨A1, c1, rfl, O_x, M.bel⟩
theorem rx_row_69_2 : row? Try.prog 69 2 = true := by kernel_rfl
theorem rx_fa_69_0_0 : fa? Try.prog 69 0 0 = true := by kernel_rfl
theorem rx_one_55 : one? Try.prog 55 = true := by kernel_rfl
theorem rx_ent_40 : ent? Try.prog 40 = true := by kernel_rfl
theorem rx_info_55_map_size_some_1 : (Try.prog.info? 55).map (·.size) = some 1 := by kernel_rfl
set_option maxHeartbeats 1000000 in
set_option maxRecDepth 100000 in
theorem copyRing_wide (ks : List Key) (A : Option Addr) (c : Nat) (next : Int) (w : World) (hr : kKey.C w A ks.length ks) (hl : ks.length * 48 ≤ 140737488351232) :
    Calls Try.prog 18 #[.agg #[.slice A ks.length c, .int .u64 next]] w fun e w' => ∃ A' c', e = .returned (.agg #[.slice A' ks.length c', .int .u64 next]) ∧ Ow kKey 107 w' w.heap.size (.slice A' ks.length c') ks ∧ Below w.heap.size w w' := by
 refine calls_start Try.func18 rfl rfl rfl (fun a F => ?_)
 have M : Mm w w [] := Mm.nil w
 refine wp_seq ?_
 refine wp_region_lit ?_
 refine list_do (wn rfl) (fun K hK => ?_)
 refine ow_box F M rfl rfl 69 _ rfl _ (F.e rfl) #[.slice A ks.length c, .int .u64 next] rfl ?_
 clear F M a; intro a g1 v F M hb hg
 refine hK _ _ ?_
 clear hK K
 clear hb hg; try clear w
 refine list_do (wn rfl) (fun K hK => ?_)
 refine ow_alloc F M rfl rfl 69 rfl (.agg #[.slice none 0 0, .int .u64 0]) z69 #[.slice none 0 0, .int .u64 0] rfl ?_
 clear F M a; intro a g2 u F M hb hg
 refine hK _ _ ?_
 clear hK K
 clear hb hg; try clear v
 refine wpList_nil ?_
 replace F : Fr 10 a [(0, .agg #[.slice A ks.length c, .int .u64 next]), (1, .pointer (some ⟨g1, 0, none⟩)), (2, .pointer (some ⟨g2, 0, none⟩))] := F.keep ⟨rfl, rfl, rfl, trivial⟩
 refine then_n ?_
 refine wp_seq ?_
 refine wp_region_lit ?_
 refine list_val F (wn rfl) rfl rfl (.agg #[.slice A ks.length c, .int .u64 next]) (ex_load _ _ rfl _ (F.e rfl) _ (lvr (cs := [.slice A ks.length c, .int .u64 next]) rx_row_69_2 (M.at (i := 1) rfl))) ?_; clear F a; intro a F
 refine list_do (wn rfl) (fun K hK => ?_)
 refine ow_alloc F M rfl rfl 69 rfl (.agg #[.slice none 0 0, .int .u64 0]) z69 #[.slice none 0 0, .int .u64 0] rfl ?_
 clear F M a; intro a g3 v F M hb hg
 refine hK _ _ ?_
 clear hK K
 clear hb hg; try clear u
 refine list_do (wn rfl) (fun K hK => ?_)
 refine ow_put F M rfl 69 _ _ rfl 0 _ #[.slice none 0 0, .int .u64 0] _ rfl (F.e rfl) #[.slice A ks.length c, .int .u64 next] (F.e rfl) (sz_row (m := 2) rx_row_69_2) rfl (by simp [Value.oneCell']) ?_
 clear F a; have Mo := M; clear M; intro a u F M hgr
 refine hK _ _ ?_
 clear hK K
 clear Mo hgr; try clear v
 replace M : Mm w u [⟨g3, #[.slice A ks.length c, .int .u64 next], 69⟩, ⟨g2, #[.slice none 0 0, .int .u64 0], 69⟩, ⟨g1, #[.slice A ks.length c, .int .u64 next], 69⟩] := M
 refine wpList_nil ?_
 replace F : Fr 10 a [(0, .agg #[.slice A ks.length c, .int .u64 next]), (1, .pointer (some ⟨g1, 0, none⟩)), (2, .pointer (some ⟨g2, 0, none⟩)), (3, .pointer (some ⟨g3, 0, none⟩))] := F.keep ⟨rfl, rfl, rfl, rfl, trivial⟩
 refine then_n ?_
 refine wp_seq ?_
 refine wp_region_lit ?_
 refine list_val F (wn rfl) rfl rfl (.pointer (some ⟨g1, 0, none⟩)) (ex_fa _ _ _ rfl _ (F.e rfl) 0 rx_fa_69_0_0 ⟨g1, 0, none⟩ rfl) ?_; clear F a; intro a F
 refine list_val F (wn rfl) rfl rfl (.slice A ks.length c) (ex_load _ _ rfl _ (F.e rfl) _ (lv1 rx_one_55 (M.cell (i := 2) rfl (j := 0) rfl))) ?_; clear F a; intro a F
 refine list_do (wn rfl) (fun K hK => ?_)
 refine ow_call rfl rfl F 40 #[.slice A ks.length c] (ex_call 40 _ _ rfl rfl rx_ent_40 _ (map1 (F.e rfl))) (copyKeys_wide ks _ c _ (Kd.C_below hr M.bel) hl) (fun e v hR => ?_)
 obtain ⟨A_7, c_7, he, O_x, hb⟩ := hR
 replace O_x := Ow.low (enc := Key.cs) (m := 34) (hl := Key.cs_len) (h1 := Key.cs_one) O_x M.bel.size
 refine ⟨.slice A_7 ks.length c_7, he, ?_⟩; clear he F a; intro a F
 refine hK _ _ ?_
 clear hK K
 replace M := M.below hb; clear hb; try clear u
 refine list_val F (wn rfl) rfl rfl (.pointer (some ⟨g3, 0, none⟩)) (ex_fa _ _ _ rfl _ (F.e rfl) 0 rx_fa_69_0_0 ⟨g3, 0, none⟩ rfl) ?_; clear F a; intro a F
 refine list_do (wn rfl) (fun K hK => ?_)
 refine ow_store F M rfl 55 _ _ rfl 0 g3 _ _ rfl 0 (F.e rfl) _ (F.e rfl) [.slice A_7 ks.length c_7] rfl rx_info_55_map_size_some_1 (by simp) (by simp [Value.oneCell']) #[.slice A_7 ks.length c_7, .int .u64 next] rfl ?_
 clear F a; have Mo := M; clear M; intro a u F M hgr
 refine hK _ _ ?_
 clear hK K
 replace O_x := Ow.grown (enc := Key.cs) (m := 34) (hl := Key.cs_len) (h1 := Key.cs_one) O_x (Mo.blk 0 _ rfl) (.inl (by show (107 : Nat) ≠ 69; decide)) hgr
 clear Mo hgr; try clear v
 replace M : Mm w u [⟨g3, #[.slice A_7 ks.length c_7, .int .u64 next], 69⟩, ⟨g2, #[.slice none 0 0, .int .u64 0], 69⟩, ⟨g1, #[.slice A ks.length c, .int .u64 next], 69⟩] := M
 refine wpList_nil ?_
 replace F : Fr 10 a [(0, .agg #[.slice A ks.length c, .int .u64 next]), (1, .pointer (some ⟨g1, 0, none⟩)), (2, .pointer (some ⟨g2, 0, none⟩)), (3, .pointer (some ⟨g3, 0, none⟩))] := F.keep ⟨rfl, rfl, rfl, rfl, trivial⟩
 refine then_n ?_
 refine wp_seq ?_
 refine wp_region_lit ?_
 refine list_val F (wn rfl) rfl rfl (.agg #[.slice A_7 ks.length c_7, .int .u64 next]) (ex_load _ _ rfl _ (F.e rfl) _ (lvr (cs := [.slice A_7 ks.length c_7, .int .u64 next]) rx_row_69_2 (M.at (i := 0) rfl))) ?_; clear F a; intro a F
 refine list_do (wn rfl) (fun K hK => ?_)
 refine ow_put F M rfl 69 _ _ rfl 1 _ #[.slice none 0 0, .int .u64 0] _ rfl (F.e rfl) #[.slice A_7 ks.length c_7, .int .u64 next] (F.e rfl) (sz_row (m := 2) rx_row_69_2) rfl (by simp [Value.oneCell']) ?_
 clear F a; have Mo := M; clear M; intro a v F M hgr
 refine hK _ _ ?_
 clear hK K
 replace O_x := Ow.grown (enc := Key.cs) (m := 34) (hl := Key.cs_len) (h1 := Key.cs_one) O_x (Mo.blk 1 _ rfl) (.inl (by show (107 : Nat) ≠ 69; decide)) hgr
 clear Mo hgr; try clear u
 replace M : Mm w v [⟨g3, #[.slice A_7 ks.length c_7, .int .u64 next], 69⟩, ⟨g2, #[.slice A_7 ks.length c_7, .int .u64 next], 69⟩, ⟨g1, #[.slice A ks.length c, .int .u64 next], 69⟩] := M
 refine wpList_nil ?_
 replace F : Fr 10 a [(0, .agg #[.slice A ks.length c, .int .u64 next]), (1, .pointer (some ⟨g1, 0, none⟩)), (2, .pointer (some ⟨g2, 0, none⟩)), (3, .pointer (some ⟨g3, 0, none⟩))] := F.keep ⟨rfl, rfl, rfl, rfl, trivial⟩
 refine then_n ?_
 refine wp_ret ?_
 exact ret_c1 (v := .agg #[.slice A_7 ks.length c_7, .int .u64 next]) F rfl rfl (lvr (cs := [.slice A_7 ks.length c_7, .int .u64 next]) rx_row_69_2 (M.at (i := 1) rfl)) ⟨A_7, c_7, rfl, O_x, M.bel⟩
theorem rx_sl_22_37 : sl? Try.prog 22 37 = true := by kernel_rfl
theorem rx_row_72_37 : row? Try.prog 72 37 = true := by kernel_rfl
theorem rx_ent_8 : ent? Try.prog 8 = true := by kernel_rfl
theorem rx_fa_72_0_0 : fa? Try.prog 72 0 0 = true := by kernel_rfl
theorem rx_one_3 : one? Try.prog 3 = true := by kernel_rfl
theorem rx_fa_72_1_1 : fa? Try.prog 72 1 1 = true := by kernel_rfl
theorem rx_row_70_32 : row? Try.prog 70 32 = true := by kernel_rfl
theorem rx_ent_9 : ent? Try.prog 9 = true := by kernel_rfl
theorem rx_ent_10 : ent? Try.prog 10 = true := by kernel_rfl
theorem rx_ent_19 : ent? Try.prog 19 = true := by kernel_rfl
theorem rx_ent_20 : ent? Try.prog 20 = true := by kernel_rfl
theorem rx_ent_21 : ent? Try.prog 21 = true := by kernel_rfl
theorem rx_ent_22 : ent? Try.prog 22 = true := by kernel_rfl
theorem rx_ent_23 : ent? Try.prog 23 = true := by kernel_rfl
theorem rx_fa_72_3_34 : fa? Try.prog 72 3 34 = true := by kernel_rfl
theorem rx_one_67 : one? Try.prog 67 = true := by kernel_rfl
theorem rx_ent_17 : ent? Try.prog 17 = true := by kernel_rfl
theorem rx_ent_24 : ent? Try.prog 24 = true := by kernel_rfl
theorem rx_fa_72_2_33 : fa? Try.prog 72 2 33 = true := by kernel_rfl
theorem rx_one_2 : one? Try.prog 2 = true := by kernel_rfl
theorem rx_ent_11 : ent? Try.prog 11 = true := by kernel_rfl
theorem rx_ent_12 : ent? Try.prog 12 = true := by kernel_rfl
theorem rx_ent_13 : ent? Try.prog 13 = true := by kernel_rfl
theorem rx_ent_14 : ent? Try.prog 14 = true := by kernel_rfl
theorem rx_ent_15 : ent? Try.prog 15 = true := by kernel_rfl
theorem rx_ent_16 : ent? Try.prog 16 = true := by kernel_rfl
theorem rx_fa_72_4_35 : fa? Try.prog 72 4 35 = true := by kernel_rfl
theorem rx_ent_18 : ent? Try.prog 18 = true := by kernel_rfl
theorem rx_sl_55_34 : sl? Try.prog 55 34 = true := by kernel_rfl
theorem rx_ent_25 : ent? Try.prog 25 = true := by kernel_rfl
theorem rx_ent_26 : ent? Try.prog 26 = true := by kernel_rfl
set_option maxHeartbeats 20000000 in
set_option maxRecDepth 100000 in
theorem exact_any (l : List StepT) (A : Option Addr) (c : Nat) (w : World) (hr : kStep.C w A l.length l) (hwf : ∀ x ∈ l, w72 x) (hll : l.length ≤ 4611686018427387904) :
    Calls Try.prog 3 #[.slice A l.length c] w fun e w' => e = .returned (.bool true) ∧ Below w.heap.size w w' := by
 refine calls_start Try.func3 rfl rfl rfl (fun a F => ?_)
 have M : Mm w w [] := Mm.nil w
 refine wp_seq ?_
 refine wp_region_lit ?_
 refine list_val F (wn rfl) rfl rfl (.bool false) (ex_assign _ rfl _ rfl) ?_; clear F a; intro a F
 refine wpList_nil ?_
 refine then_n ?_
 refine wp_seq ?_
 refine wp_region_lit ?_
 refine list_val F (wn rfl) rfl rfl (.agg ((bkC (.slice none 0 0) (.slice none 0 0) 0 0 0 0).toArray)) (ex_build 50 _ rfl #[] parts0 (.agg ((bkC (.slice none 0 0) (.slice none 0 0) 0 0 0 0).toArray)) (build50_0 _)) ?_; clear F a; intro a F
 refine list_do (wn rfl) (fun K hK => ?_)
 refine ow_box F M rfl rfl 50 _ rfl _ (F.e rfl) ((bkC (.slice none 0 0) (.slice none 0 0) 0 0 0 0).toArray) rfl ?_
 clear F M a; intro a g15 v F M hb hg
 refine hK _ _ ?_
 clear hK K
 clear hb hg; try clear w
 refine list_val F (wn rfl) rfl rfl (.pointer (some ⟨g15, 0, none⟩)) (ex_assign _ rfl _ (F.e rfl)) ?_; clear F a; intro a F
 refine wpList_nil ?_
 refine then_n ?_
 refine wp_seq ?_
 refine wp_region_lit ?_
 refine list_val F (wn rfl) rfl rfl (.agg ((seC (.slice none 0 0)).toArray)) (ex_build 66 _ rfl #[] parts0 (.agg ((seC (.slice none 0 0)).toArray)) (build66_0 _)) ?_; clear F a; intro a F
 refine list_do (wn rfl) (fun K hK => ?_)
 refine ow_box F M rfl rfl 66 _ rfl _ (F.e rfl) ((seC (.slice none 0 0)).toArray) rfl ?_
 clear F M a; intro a g17 u F M hb hg
 refine hK _ _ ?_
 clear hK K
 clear hb hg; try clear v
 refine list_val F (wn rfl) rfl rfl (.pointer (some ⟨g17, 0, none⟩)) (ex_assign _ rfl _ (F.e rfl)) ?_; clear F a; intro a F
 refine wpList_nil ?_
 refine then_n ?_
 refine wp_seq ?_
 refine wp_region_lit ?_
 refine list_val F (wn rfl) rfl rfl (.agg #[.slice none 0 0, .int .u64 0]) (ex_build 69 _ rfl #[] parts0 (.agg #[.slice none 0 0, .int .u64 0]) (build69_0 _)) ?_; clear F a; intro a F
 refine list_do (wn rfl) (fun K hK => ?_)
 refine ow_alloc F M rfl rfl 69 rfl (.agg #[.slice none 0 0, .int .u64 0]) z69 #[.slice none 0 0, .int .u64 0] rfl ?_
 clear F M a; intro a g5 v F M hb hg
 refine hK _ _ ?_
 clear hK K
 clear hb hg; try clear u
 refine list_do (wn rfl) (fun K hK => ?_)
 refine ow_put F M rfl 69 _ _ rfl 0 _ #[.slice none 0 0, .int .u64 0] _ rfl (F.e rfl) #[.slice none 0 0, .int .u64 0] (F.e rfl) (sz_row (m := 2) rx_row_69_2) rfl (by simp [Value.oneCell']) ?_
 clear F a; have Mo := M; clear M; intro a u F M hgr
 refine hK _ _ ?_
 clear hK K
 clear Mo hgr; try clear v
 replace M : Mm w u [⟨g5, #[.slice none 0 0, .int .u64 0], 69⟩, ⟨g17, ((seC (.slice none 0 0)).toArray), 66⟩, ⟨g15, ((bkC (.slice none 0 0) (.slice none 0 0) 0 0 0 0).toArray), 50⟩] := M
 refine wpList_nil ?_
 refine then_n ?_
 refine wp_seq ?_
 refine wp_seq ?_
 refine wp_region_lit ?_
 refine list_val F (wn rfl) rfl rfl (.int .i64 0) (ex_assign _ rfl _ rfl) ?_; clear F a; intro a F
 refine wpList_nil ?_
 refine then_n ?_
 refine wp_block ?_
 have S_ := st_new (base := w.heap.size) (M.blk 2 _ rfl) (M.blk 1 _ rfl) (M.lo 2 _ rfl) (M.lo 1 _ rfl) M.bel.size
 refine wp_loopN (fun mq ar wr => ∃ (i : Nat), ∃ (own : Nat → Nat), ∃ (lim : Nat), ∃ (tn : Nat), ∃ (RA : Option Addr), ∃ (rc : Nat), ∃ (rks : List Key), ∃ (rnx : Int), Fr 199 ar [(0, .slice A l.length c), (2, .bool false), (3, .pointer (some ⟨g15, 0, none⟩)), (4, .pointer (some ⟨g17, 0, none⟩)), (5, .pointer (some ⟨g5, 0, none⟩)), (6, .int .i64 i)] ∧ Mm w wr [⟨g5, #[.slice RA rks.length rc, .int .u64 rnx], 69⟩] ∧ St own w.heap.size lim g15 g17 tn RA rc rks wr ∧ i ≤ l.length ∧ i ≤ 200 ∧ tn ≤ 2 * i ∧ rks.length ≤ 40 + i ∧ 0 ≤ rnx ∧ mq + i = l.length) l.length ?_ ?_
 ·
  exact ⟨0, _, _, 0, none, 0, [], 0, F.keep ⟨rfl, rfl, rfl, rfl, rfl, rfl, trivial⟩, (by refine M.pick' [0] _ ?_ (by decide); exact ⟨rfl, trivial⟩), S_, (Nat.zero_le _), (Nat.zero_le _), (Nat.zero_le _), (Nat.zero_le _), (Int.le_refl _), (by omega)⟩
 clear F M a
 rintro mq a v ⟨i, own, lim, tn, RA, rc, rks, rnx, F, M, S_, hi, hi2, htn, hrl, hrn0, hq⟩; try clear u
 by_cases h1 : i < l.length
 ·
  by_cases h2 : i < 200
  ·
   obtain ⟨adt, rfl, act, s, tm, kid, ks, next, B, b, zi, hB, hBb, hnx0, hnx, hkd, hkl⟩ := at_Step2 hr hwf h1
   have hlimw := S_.lim.1
   refine wp_seq ?_
   refine wp_seq ?_
   refine wp_region_lit ?_
   refine list_val F (wn rfl) rfl rfl (.int .i64 i) (ex_move _ rfl _ (F.e rfl)) ?_; clear F a; intro a F
   refine list_val F (wn rfl) rfl rfl (.slice (some adt) l.length c) (ex_move _ rfl _ (F.e rfl)) ?_; clear F a; intro a F
   refine list_val F (wn rfl) rfl rfl (.int .i64 ((l.length : Nat) : Int)) (ex_len _ _ rfl 37 rx_sl_22_37 _ _ _ (F.e rfl)) ?_; clear F a; intro a F
   refine list_val F (wn rfl) rfl rfl (.bool true) (ex_bin .lss _ _ _ _ rfl .i64 _ _ (F.e rfl) (F.e rfl) _ (b_lss (decide_eq_true (by omega)))) ?_; clear F a; intro a F
   refine list_val F (wn rfl) rfl rfl (.bool true) (ex_move _ rfl _ (F.e rfl)) ?_; clear F a; intro a F
   refine list_val F (F.wants 23 true rfl (by kernel_rfl) rfl true rfl) rfl rfl (.int .i64 i) (ex_move _ rfl _ (F.e rfl)) ?_; clear F a; intro a F
   refine list_val F (F.wants 23 true rfl (by kernel_rfl) rfl true rfl) rfl rfl (.bool true) (ex_bin .lss _ _ _ _ rfl .i64 _ _ (F.e rfl) rfl _ (b_lss (decide_eq_true (by omega)))) ?_; clear F a; intro a F
   refine list_val F (wn rfl) rfl rfl (.bool true) (ex_pick_t _ _ _ rfl (F.e rfl) _ (F.e rfl)) ?_; clear F a; intro a F
   refine wpList_nil ?_
   refine then_n ?_
   refine wp_cond_true (F.e rfl) ?_
   refine wp_skip ?_
   refine then_n ?_
   refine wp_seq ?_
   refine wp_block ?_
   refine wp_seq ?_
   refine wp_region_lit ?_
   refine list_val F (wn rfl) rfl rfl (.slice (some adt) l.length c) (ex_move _ rfl _ (F.e rfl)) ?_; clear F a; intro a F
   refine list_val F (wn rfl) rfl rfl (.int .i64 i) (ex_move _ rfl _ (F.e rfl)) ?_; clear F a; intro a F
   refine list_val F (wn rfl) rfl rfl (.pointer (some (adt.add (i * 37)))) (ex_ix _ _ _ rfl 37 rx_sl_22_37 adt _ _ (F.e rfl) .i64 _ (F.e rfl) i rfl (by omega) (adt.add (i * 37)) rfl) ?_; clear F a; intro a F
   refine list_val F (wn rfl) rfl rfl (.agg ((stepCs act s tm kid (.slice B ks.length b) next).toArray)) (ex_load _ _ rfl _ (F.e rfl) _ (lvr (cs := stepCs act s tm kid (.slice B ks.length b) next) (by rw [step_len]; exact rx_row_72_37) ((zi.below M.bel)))) ?_; clear F a; intro a F
   refine list_do (wn rfl) (fun K hK => ?_)
   refine ow_alloc F M rfl rfl 72 rfl (.agg ((stepCs 0 (zBs 32) 0 0 (.slice none 0 0) 0).toArray)) z72 ((stepCs 0 (zBs 32) 0 0 (.slice none 0 0) 0).toArray) rfl ?_
   clear F M a; intro a g7 u F M hb hg
   refine hK _ _ ?_
   clear hK K
   replace S_ := S_.below hb
   clear hb hg; try clear v
   refine list_do (wn rfl) (fun K hK => ?_)
   refine ow_put F M rfl 72 _ _ rfl 0 _ ((stepCs 0 (zBs 32) 0 0 (.slice none 0 0) 0).toArray) _ rfl (F.e rfl) ((stepCs act s tm kid (.slice B ks.length b) next).toArray) (F.e rfl) (by rw [step_size]; exact sz_row rx_row_72_37) (by rw [step_size, step_size]) (step_one rfl) ?_
   clear F a; have Mo := M; clear M; intro a v F M hgr
   refine hK _ _ ?_
   clear hK K
   replace S_ := S_.grown (Mo.blk 0 _ rfl) (by show (72 : Nat) ≠ 50 ∧ (72 : Nat) ≠ 55 ∧ (72 : Nat) ≠ 3 ∧ (72 : Nat) ≠ 66 ∧ (72 : Nat) ≠ 107; decide) hgr
   clear Mo hgr; try clear u
   replace M : Mm w v [⟨g7, (stepCs act s tm kid (.slice B ks.length b) next).toArray, 72⟩, ⟨g5, #[.slice RA rks.length rc, .int .u64 rnx], 69⟩] := M
   refine wpList_nil ?_
   refine then_n ?_
   refine wp_seq ?_
   refine wp_region_lit ?_
   refine list_val F (wn rfl) rfl rfl (.agg #[.slice RA rks.length rc, .int .u64 rnx]) (ex_load _ _ rfl _ (F.e rfl) _ (lvr (cs := [.slice RA rks.length rc, .int .u64 rnx]) rx_row_69_2 (M.at (i := 1) rfl))) ?_; clear F a; intro a F
   refine list_do (wn rfl) (fun K hK => ?_)
   refine ow_alloc F M rfl rfl 69 rfl (.agg #[.slice none 0 0, .int .u64 0]) z69 #[.slice none 0 0, .int .u64 0] rfl ?_
   clear F M a; intro a g8 u F M hb hg
   refine hK _ _ ?_
   clear hK K
   replace S_ := S_.below hb
   clear hb hg; try clear v
   refine list_do (wn rfl) (fun K hK => ?_)
   refine ow_put F M rfl 69 _ _ rfl 0 _ #[.slice none 0 0, .int .u64 0] _ rfl (F.e rfl) #[.slice RA rks.length rc, .int .u64 rnx] (F.e rfl) (sz_row (m := 2) rx_row_69_2) rfl (by simp [Value.oneCell']) ?_
   clear F a; have Mo := M; clear M; intro a v F M hgr
   refine hK _ _ ?_
   clear hK K
   replace S_ := S_.grown (Mo.blk 0 _ rfl) (by show (69 : Nat) ≠ 50 ∧ (69 : Nat) ≠ 55 ∧ (69 : Nat) ≠ 3 ∧ (69 : Nat) ≠ 66 ∧ (69 : Nat) ≠ 107; decide) hgr
   clear Mo hgr; try clear u
   replace M : Mm w v [⟨g8, #[.slice RA rks.length rc, .int .u64 rnx], 69⟩, ⟨g7, (stepCs act s tm kid (.slice B ks.length b) next).toArray, 72⟩, ⟨g5, #[.slice RA rks.length rc, .int .u64 rnx], 69⟩] := M
   refine wpList_nil ?_
   refine then_n ?_
   refine wp_seq ?_
   refine wp_region_lit ?_
   refine list_val F (wn rfl) rfl rfl (.int .i64 0) (ex_assign _ rfl _ rfl) ?_; clear F a; intro a F
   refine wpList_nil ?_
   refine then_n ?_
   refine wp_seq ?_
   refine wp_region_lit ?_
   refine list_val F (wn rfl) rfl rfl (.agg #[.slice RA rks.length rc, .int .u64 rnx]) (ex_load _ _ rfl _ (F.e rfl) _ (lvr (cs := [.slice RA rks.length rc, .int .u64 rnx]) rx_row_69_2 (M.at (i := 2) rfl))) ?_; clear F a; intro a F
   refine list_do (wn rfl) (fun K hK => ?_)
   obtain ⟨bx, hbx_⟩ : ∃ b, b = v.heap.size := ⟨_, rfl⟩
   have hlx : lim ≤ bx := by rw [hbx_]; exact S_.lim.2
   refine ow_call rfl rfl F 8 #[.agg #[.slice RA rks.length rc, .int .u64 rnx]] (ex_call 8 _ _ rfl rfl rx_ent_8 _ (map1 (F.e rfl))) (lent_any rks _ rc rnx _ S_.rd S_.rc (by omega)) (fun e u hR => ?_)
   obtain ⟨XA, xc, he, O_x, hb⟩ := hR
   replace O_x : Ow kKey 107 u bx (.slice XA (rks ++ marks).length xc) (rks ++ marks) := by rw [hbx_]; exact O_x
   clear hbx_
   refine ⟨.agg #[.slice XA rks.length xc, .int .u64 rnx], he, ?_⟩; clear he F a; intro a F
   refine hK _ _ ?_
   clear hK K
   replace S_ := S_.below hb
   replace M := M.below hb; clear hb; try clear v
   refine list_do (wn rfl) (fun K hK => ?_)
   refine ow_alloc F M rfl rfl 69 rfl (.agg #[.slice none 0 0, .int .u64 0]) z69 #[.slice none 0 0, .int .u64 0] rfl ?_
   clear F M a; intro a g10 v F M hb hg
   refine hK _ _ ?_
   clear hK K
   replace S_ := S_.below hb
   replace O_x := O_x.below hb
   clear hb hg; try clear u
   refine list_do (wn rfl) (fun K hK => ?_)
   refine ow_put F M rfl 69 _ _ rfl 0 _ #[.slice none 0 0, .int .u64 0] _ rfl (F.e rfl) #[.slice XA rks.length xc, .int .u64 rnx] (F.e rfl) (sz_row (m := 2) rx_row_69_2) rfl (by simp [Value.oneCell']) ?_
   clear F a; have Mo := M; clear M; intro a u F M hgr
   refine hK _ _ ?_
   clear hK K
   replace S_ := S_.grown (Mo.blk 0 _ rfl) (by show (69 : Nat) ≠ 50 ∧ (69 : Nat) ≠ 55 ∧ (69 : Nat) ≠ 3 ∧ (69 : Nat) ≠ 66 ∧ (69 : Nat) ≠ 107; decide) hgr
   replace O_x := Ow.grown (enc := Key.cs) (m := 34) (hl := Key.cs_len) (h1 := Key.cs_one) O_x (Mo.blk 0 _ rfl) (.inl (by show (107 : Nat) ≠ 69; decide)) hgr
   clear Mo hgr; try clear v
   replace M : Mm w u [⟨g10, #[.slice XA rks.length xc, .int .u64 rnx], 69⟩, ⟨g8, #[.slice RA rks.length rc, .int .u64 rnx], 69⟩, ⟨g7, (stepCs act s tm kid (.slice B ks.length b) next).toArray, 72⟩, ⟨g5, #[.slice RA rks.length rc, .int .u64 rnx], 69⟩] := M
   refine wpList_nil ?_
   refine then_n ?_
   refine wp_seq ?_
   refine wp_region_lit ?_
   refine list_val F (wn rfl) rfl rfl (.agg #[.slice RA rks.length rc, .int .u64 rnx]) (ex_load _ _ rfl _ (F.e rfl) _ (lvr (cs := [.slice RA rks.length rc, .int .u64 rnx]) rx_row_69_2 (M.at (i := 3) rfl))) ?_; clear F a; intro a F
   refine list_do (wn rfl) (fun K hK => ?_)
   refine ow_alloc F M rfl rfl 69 rfl (.agg #[.slice none 0 0, .int .u64 0]) z69 #[.slice none 0 0, .int .u64 0] rfl ?_
   clear F M a; intro a g11 v F M hb hg
   refine hK _ _ ?_
   clear hK K
   replace S_ := S_.below hb
   replace O_x := O_x.below hb
   clear hb hg; try clear u
   refine list_do (wn rfl) (fun K hK => ?_)
   refine ow_put F M rfl 69 _ _ rfl 0 _ #[.slice none 0 0, .int .u64 0] _ rfl (F.e rfl) #[.slice RA rks.length rc, .int .u64 rnx] (F.e rfl) (sz_row (m := 2) rx_row_69_2) rfl (by simp [Value.oneCell']) ?_
   clear F a; have Mo := M; clear M; intro a u F M hgr
   refine hK _ _ ?_
   clear hK K
   replace S_ := S_.grown (Mo.blk 0 _ rfl) (by show (69 : Nat) ≠ 50 ∧ (69 : Nat) ≠ 55 ∧ (69 : Nat) ≠ 3 ∧ (69 : Nat) ≠ 66 ∧ (69 : Nat) ≠ 107; decide) hgr
   replace O_x := Ow.grown (enc := Key.cs) (m := 34) (hl := Key.cs_len) (h1 := Key.cs_one) O_x (Mo.blk 0 _ rfl) (.inl (by show (107 : Nat) ≠ 69; decide)) hgr
   clear Mo hgr; try clear v
   replace M : Mm w u [⟨g11, #[.slice RA rks.length rc, .int .u64 rnx], 69⟩, ⟨g10, #[.slice XA rks.length xc, .int .u64 rnx], 69⟩, ⟨g8, #[.slice RA rks.length rc, .int .u64 rnx], 69⟩, ⟨g7, (stepCs act s tm kid (.slice B ks.length b) next).toArray, 72⟩, ⟨g5, #[.slice RA rks.length rc, .int .u64 rnx], 69⟩] := M
   refine wpList_nil ?_
   refine then_n ?_
   refine wp_seq ?_
   refine wp_region_lit ?_
   refine list_val F (wn rfl) rfl rfl (.int .i64 0) (ex_assign _ rfl _ rfl) ?_; clear F a; intro a F
   refine wpList_nil ?_
   refine then_n ?_
   refine wp_seq ?_
   refine wp_region_lit ?_
   refine list_do (wn rfl) (fun K hK => ?_)
   refine ow_alloc F M rfl rfl 69 rfl (.agg #[.slice none 0 0, .int .u64 0]) z69 #[.slice none 0 0, .int .u64 0] rfl ?_
   clear F M a; intro a g13 v F M hb hg
   refine hK _ _ ?_
   clear hK K
   replace S_ := S_.below hb
   replace O_x := O_x.below hb
   clear hb hg; try clear u
   refine wpList_nil ?_
   refine then_n ?_
   refine wp_seq ?_
   refine wp_seq ?_
   refine wp_region_lit ?_
   refine list_val F (wn rfl) rfl rfl (.pointer (some ⟨g7, 0, none⟩)) (ex_fa _ _ _ rfl _ (F.e rfl) 0 rx_fa_72_0_0 ⟨g7, 0, none⟩ rfl) ?_; clear F a; intro a F
   refine list_val F (wn rfl) rfl rfl (.int .i64 act) (ex_load _ _ rfl _ (F.e rfl) _ (lv1 rx_one_3 (M.cell (i := 4) rfl (j := 0) rfl))) ?_; clear F a; intro a F
   refine wpList_nil ?_
   refine then_n ?_
   refine wp_block ?_
   refine wp_seq ?_
   by_cases ha1 : act = 1
   ·
    obtain ⟨q, hq⟩ : ∃ q, firstF s = q := ⟨_, rfl⟩
    have hqb := fir_bd hq
    refine wp_region_lit ?_
    refine list_val F (wn rfl) rfl rfl (.bool true) (ex_bin .eql _ _ _ _ rfl .i64 _ _ (F.e rfl) rfl _ (b_eql (by rw [ha1]; rfl))) ?_; clear F a; intro a F
    refine list_val F (wn rfl) rfl rfl (.bool true) (ex_assign _ rfl _ (F.e rfl)) ?_; clear F a; intro a F
    refine wpList_nil ?_
    refine then_n ?_
    refine wp_cond_true (F.e rfl) ?_
    refine wp_seq ?_
    refine wp_region_lit ?_
    refine list_val F (wn rfl) rfl rfl (.pointer (some ⟨g7, 1, none⟩)) (ex_fa _ _ _ rfl _ (F.e rfl) 1 rx_fa_72_1_1 ⟨g7, 1, none⟩ rfl) ?_; clear F a; intro a F
    refine list_val F (wn rfl) rfl rfl (.agg s.cs.toArray) (ex_load _ _ rfl _ (F.e rfl) _ (lvr (cs := s.cs) (by rw [Bs.cs_len]; exact rx_row_70_32) (step_sec (M.at (i := 4) rfl)))) ?_; clear F a; intro a F
    refine list_do (wn rfl) (fun K hK => ?_)
    obtain ⟨bw, hbw_⟩ : ∃ b, b = v.heap.size := ⟨_, rfl⟩
    have hxw : ∀ k, (Value.slice XA (rks ++ marks).length xc).ownBlock = some k → k < bw := fun k hk => by rw [hbw_]; exact (Ow_lt O_x hk).2
    have hlw : lim ≤ bw := by rw [hbw_]; exact S_.lim.2
    refine ow_call rfl rfl F 9 #[.agg s.cs.toArray] (ex_call 9 _ _ rfl rfl rx_ent_9 _ (map1 (F.e rfl))) (rfir_o hq _) (fun e u hR => ?_)
    obtain ⟨wA, wc, he, O_w, hb⟩ := hR
    replace O_w : Ow kKey 107 u bw (.slice wA q.keys.length wc) q.keys := by rw [hbw_]; exact O_w
    have Z_ : bw ≤ u.heap.size := by rw [hbw_]; exact hb.size
    clear hbw_
    refine ⟨.agg #[.slice wA q.keys.length wc, .int .u64 q.next], he, ?_⟩; clear he F a; intro a F
    refine hK _ _ ?_
    clear hK K
    replace S_ := S_.below hb
    replace O_x := O_x.below hb
    replace M := M.below hb; clear hb; try clear v
    refine list_do (wn rfl) (fun K hK => ?_)
    refine ow_put F M rfl 69 _ _ rfl 3 _ #[.slice RA rks.length rc, .int .u64 rnx] _ rfl (F.e rfl) #[.slice wA q.keys.length wc, .int .u64 q.next] (F.e rfl) (sz_row (m := 2) rx_row_69_2) rfl (by simp [Value.oneCell']) ?_
    clear F a; have Mo := M; clear M; intro a v F M hgr
    refine hK _ _ ?_
    clear hK K
    replace S_ := S_.grown (Mo.blk 3 _ rfl) (by show (69 : Nat) ≠ 50 ∧ (69 : Nat) ≠ 55 ∧ (69 : Nat) ≠ 3 ∧ (69 : Nat) ≠ 66 ∧ (69 : Nat) ≠ 107; decide) hgr
    replace O_x := Ow.grown (enc := Key.cs) (m := 34) (hl := Key.cs_len) (h1 := Key.cs_one) O_x (Mo.blk 3 _ rfl) (.inl (by show (107 : Nat) ≠ 69; decide)) hgr
    replace O_w := Ow.grown (enc := Key.cs) (m := 34) (hl := Key.cs_len) (h1 := Key.cs_one) O_w (Mo.blk 3 _ rfl) (.inl (by show (107 : Nat) ≠ 69; decide)) hgr
    replace Z_ := Nat.le_trans Z_ hgr.size
    clear Mo hgr; try clear u
    replace M : Mm w v [⟨g13, #[.slice none 0 0, .int .u64 0], 69⟩, ⟨g11, #[.slice RA rks.length rc, .int .u64 rnx], 69⟩, ⟨g10, #[.slice XA rks.length xc, .int .u64 rnx], 69⟩, ⟨g8, #[.slice wA q.keys.length wc, .int .u64 q.next], 69⟩, ⟨g7, (stepCs act s tm kid (.slice B ks.length b) next).toArray, 72⟩, ⟨g5, #[.slice RA rks.length rc, .int .u64 rnx], 69⟩] := M
    refine wpList_nil ?_
    refine then_n ?_
    refine wp_seq ?_
    refine wp_region_lit ?_
    refine list_val F (wn rfl) rfl rfl (.pointer (some ⟨g7, 1, none⟩)) (ex_fa _ _ _ rfl _ (F.e rfl) 1 rx_fa_72_1_1 ⟨g7, 1, none⟩ rfl) ?_; clear F a; intro a F
    refine list_val F (wn rfl) rfl rfl (.agg s.cs.toArray) (ex_load _ _ rfl _ (F.e rfl) _ (lvr (cs := s.cs) (by rw [Bs.cs_len]; exact rx_row_70_32) (step_sec (M.at (i := 4) rfl)))) ?_; clear F a; intro a F
    refine list_do (wn rfl) (fun K hK => ?_)
    obtain ⟨bg, hbg_⟩ : ∃ b, b = v.heap.size := ⟨_, rfl⟩
    have hwg : ∀ k, (Value.slice wA q.keys.length wc).ownBlock = some k → k < bg := fun k hk => by rw [hbg_]; exact (Ow_lt O_w hk).2
    have hlg : bw ≤ bg := by rw [hbg_]; exact Z_
    refine ow_call rfl rfl F 10 #[.agg s.cs.toArray] (ex_call 10 _ _ rfl rfl rx_ent_10 _ (map1 (F.e rfl))) (fir_o hq _) (fun e u hR => ?_)
    obtain ⟨gA, gc, he, O_g, hb⟩ := hR
    replace O_g : Ow kKey 107 u bg (.slice gA q.keys.length gc) q.keys := by rw [hbg_]; exact O_g
    replace Z_ : bg ≤ u.heap.size := by rw [hbg_]; exact hb.size
    clear hbg_
    refine ⟨.agg #[.slice gA q.keys.length gc, .int .u64 q.next], he, ?_⟩; clear he F a; intro a F
    refine hK _ _ ?_
    clear hK K
    replace S_ := S_.below hb
    replace O_x := O_x.below hb
    replace O_w := O_w.below hb
    replace M := M.below hb; clear hb; try clear v
    refine list_do (wn rfl) (fun K hK => ?_)
    refine ow_put F M rfl 69 _ _ rfl 1 _ #[.slice RA rks.length rc, .int .u64 rnx] _ rfl (F.e rfl) #[.slice gA q.keys.length gc, .int .u64 q.next] (F.e rfl) (sz_row (m := 2) rx_row_69_2) rfl (by simp [Value.oneCell']) ?_
    clear F a; have Mo := M; clear M; intro a v F M hgr
    refine hK _ _ ?_
    clear hK K
    replace S_ := S_.grown (Mo.blk 1 _ rfl) (by show (69 : Nat) ≠ 50 ∧ (69 : Nat) ≠ 55 ∧ (69 : Nat) ≠ 3 ∧ (69 : Nat) ≠ 66 ∧ (69 : Nat) ≠ 107; decide) hgr
    replace O_x := Ow.grown (enc := Key.cs) (m := 34) (hl := Key.cs_len) (h1 := Key.cs_one) O_x (Mo.blk 1 _ rfl) (.inl (by show (107 : Nat) ≠ 69; decide)) hgr
    replace O_w := Ow.grown (enc := Key.cs) (m := 34) (hl := Key.cs_len) (h1 := Key.cs_one) O_w (Mo.blk 1 _ rfl) (.inl (by show (107 : Nat) ≠ 69; decide)) hgr
    replace O_g := Ow.grown (enc := Key.cs) (m := 34) (hl := Key.cs_len) (h1 := Key.cs_one) O_g (Mo.blk 1 _ rfl) (.inl (by show (107 : Nat) ≠ 69; decide)) hgr
    replace Z_ := Nat.le_trans Z_ hgr.size
    clear Mo hgr; try clear u
    replace M : Mm w v [⟨g13, #[.slice none 0 0, .int .u64 0], 69⟩, ⟨g11, #[.slice gA q.keys.length gc, .int .u64 q.next], 69⟩, ⟨g10, #[.slice XA rks.length xc, .int .u64 rnx], 69⟩, ⟨g8, #[.slice wA q.keys.length wc, .int .u64 q.next], 69⟩, ⟨g7, (stepCs act s tm kid (.slice B ks.length b) next).toArray, 72⟩, ⟨g5, #[.slice RA rks.length rc, .int .u64 rnx], 69⟩] := M
    refine wpList_nil ?_
    refine then_n ?_
    refine wp_region_lit ?_
    refine list_val F (wn rfl) rfl rfl (.pointer (some ⟨g7, 1, none⟩)) (ex_fa _ _ _ rfl _ (F.e rfl) 1 rx_fa_72_1_1 ⟨g7, 1, none⟩ rfl) ?_; clear F a; intro a F
    refine list_val F (wn rfl) rfl rfl (.agg s.cs.toArray) (ex_load _ _ rfl _ (F.e rfl) _ (lvr (cs := s.cs) (by rw [Bs.cs_len]; exact rx_row_70_32) (step_sec (M.at (i := 4) rfl)))) ?_; clear F a; intro a F
    refine list_do (wn rfl) (fun K hK => ?_)
    obtain ⟨bt, hbt_⟩ : ∃ b, b = v.heap.size := ⟨_, rfl⟩
    have hgt : ∀ k, (Value.slice gA q.keys.length gc).ownBlock = some k → k < bt := fun k hk => by rw [hbt_]; exact (Ow_lt O_g hk).2
    have hlt : bg ≤ bt := by rw [hbt_]; exact Z_
    refine ow_call rfl rfl F 10 #[.agg s.cs.toArray] (ex_call 10 _ _ rfl rfl rx_ent_10 _ (map1 (F.e rfl))) (fir_o hq _) (fun e u hR => ?_)
    obtain ⟨tA, tc, he, O_t, hb⟩ := hR
    replace O_t : Ow kKey 107 u bt (.slice tA q.keys.length tc) q.keys := by rw [hbt_]; exact O_t
    replace Z_ : bt ≤ u.heap.size := by rw [hbt_]; exact hb.size
    clear hbt_
    refine ⟨.agg #[.slice tA q.keys.length tc, .int .u64 q.next], he, ?_⟩; clear he F a; intro a F
    refine hK _ _ ?_
    clear hK K
    replace S_ := S_.below hb
    replace O_x := O_x.below hb
    replace O_w := O_w.below hb
    replace O_g := O_g.below hb
    replace M := M.below hb; clear hb; try clear v
    refine list_do (wn rfl) (fun K hK => ?_)
    refine ow_put F M rfl 69 _ _ rfl 0 _ #[.slice none 0 0, .int .u64 0] _ rfl (F.e rfl) #[.slice tA q.keys.length tc, .int .u64 q.next] (F.e rfl) (sz_row (m := 2) rx_row_69_2) rfl (by simp [Value.oneCell']) ?_
    clear F a; have Mo := M; clear M; intro a v F M hgr
    refine hK _ _ ?_
    clear hK K
    replace S_ := S_.grown (Mo.blk 0 _ rfl) (by show (69 : Nat) ≠ 50 ∧ (69 : Nat) ≠ 55 ∧ (69 : Nat) ≠ 3 ∧ (69 : Nat) ≠ 66 ∧ (69 : Nat) ≠ 107; decide) hgr
    replace O_x := Ow.grown (enc := Key.cs) (m := 34) (hl := Key.cs_len) (h1 := Key.cs_one) O_x (Mo.blk 0 _ rfl) (.inl (by show (107 : Nat) ≠ 69; decide)) hgr
    replace O_w := Ow.grown (enc := Key.cs) (m := 34) (hl := Key.cs_len) (h1 := Key.cs_one) O_w (Mo.blk 0 _ rfl) (.inl (by show (107 : Nat) ≠ 69; decide)) hgr
    replace O_g := Ow.grown (enc := Key.cs) (m := 34) (hl := Key.cs_len) (h1 := Key.cs_one) O_g (Mo.blk 0 _ rfl) (.inl (by show (107 : Nat) ≠ 69; decide)) hgr
    replace O_t := Ow.grown (enc := Key.cs) (m := 34) (hl := Key.cs_len) (h1 := Key.cs_one) O_t (Mo.blk 0 _ rfl) (.inl (by show (107 : Nat) ≠ 69; decide)) hgr
    replace Z_ := Nat.le_trans Z_ hgr.size
    clear Mo hgr; try clear u
    replace M : Mm w v [⟨g13, #[.slice tA q.keys.length tc, .int .u64 q.next], 69⟩, ⟨g11, #[.slice gA q.keys.length gc, .int .u64 q.next], 69⟩, ⟨g10, #[.slice XA rks.length xc, .int .u64 rnx], 69⟩, ⟨g8, #[.slice wA q.keys.length wc, .int .u64 q.next], 69⟩, ⟨g7, (stepCs act s tm kid (.slice B ks.length b) next).toArray, 72⟩, ⟨g5, #[.slice RA rks.length rc, .int .u64 rnx], 69⟩] := M
    refine wpList_nil ?_
    refine in_n ?_
    refine then_n ?_
    refine wp_seq ?_
    refine wp_seq ?_
    refine wp_region_lit ?_
    refine list_val F (wn rfl) rfl rfl (.pointer (some ⟨g10, 0, none⟩)) (ex_fa _ _ _ rfl _ (F.e rfl) 0 rx_fa_69_0_0 ⟨g10, 0, none⟩ rfl) ?_; clear F a; intro a F
    refine list_val F (wn rfl) rfl rfl (.slice XA rks.length xc) (ex_load _ _ rfl _ (F.e rfl) _ (lv1 rx_one_55 (M.cell (i := 2) rfl (j := 0) rfl))) ?_; clear F a; intro a F
    refine list_val F (wn rfl) rfl rfl (.pointer (some ⟨g5, 0, none⟩)) (ex_fa _ _ _ rfl _ (F.e rfl) 0 rx_fa_69_0_0 ⟨g5, 0, none⟩ rfl) ?_; clear F a; intro a F
    refine list_val F (wn rfl) rfl rfl (.slice RA rks.length rc) (ex_load _ _ rfl _ (F.e rfl) _ (lv1 rx_one_55 (M.cell (i := 5) rfl (j := 0) rfl))) ?_; clear F a; intro a F
    refine list_do (wn rfl) (fun K hK => ?_)
    refine ow_call rfl rfl F 19 #[.slice XA rks.length xc, .slice RA rks.length rc] (ex_call 19 _ _ rfl rfl rx_ent_19 _ (map2 (F.e rfl) (F.e rfl))) (backKeys_any rks _ xc _ rc _ (Ow.rd (k := kKey) O_x).1 (Ow.rd (k := kKey) O_x).2.2 S_.rd S_.rc (by omega)) (fun e u hR => ?_)
    obtain ⟨he, hb⟩ := hR
    refine ⟨.bool true, he, ?_⟩; clear he F a; intro a F
    refine hK _ _ ?_
    clear hK K
    replace S_ := S_.below hb
    replace O_x := O_x.below hb
    replace O_w := O_w.below hb
    replace O_g := O_g.below hb
    replace O_t := O_t.below hb
    replace Z_ := Nat.le_trans Z_ hb.size
    replace M := M.below hb; clear hb; try clear v
    refine list_val F (wn rfl) rfl rfl (.bool false) (ex_not _ _ rfl _ (F.e rfl) _ rfl) ?_; clear F a; intro a F
    refine wpList_nil ?_
    refine then_n ?_
    refine wp_cond_false (F.e rfl) ?_
    refine wp_skip ?_
    refine then_n ?_
    refine wp_seq ?_
    refine wp_region_lit ?_
    refine list_val F (wn rfl) rfl rfl (.pointer (some ⟨g10, 0, none⟩)) (ex_fa _ _ _ rfl _ (F.e rfl) 0 rx_fa_69_0_0 ⟨g10, 0, none⟩ rfl) ?_; clear F a; intro a F
    refine list_val F (wn rfl) rfl rfl (.slice XA rks.length xc) (ex_load _ _ rfl _ (F.e rfl) _ (lv1 rx_one_55 (M.cell (i := 2) rfl (j := 0) rfl))) ?_; clear F a; intro a F
    refine list_do (wn rfl) (fun K hK => ?_)
    refine ow_call rfl rfl F 20 #[.slice XA rks.length xc] (ex_call 20 _ _ rfl rfl rx_ent_20 _ (map1 (F.e rfl))) (over_own O_x (by omega)) (fun e v hR => ?_)
    obtain ⟨he, gx, cx, hcx, hbx, hox, hgr⟩ := hR
    refine ⟨.tuple #[], he, ?_⟩; clear he F a; intro a F
    refine hK _ _ ?_
    clear hK K
    replace S_ := S_.over hcx hlx hbx hgr
    replace O_w := Ow_ap O_w (by have h_ := hxw _ hox; omega) hgr
    replace O_g := Ow_ap O_g (by have h_ := hxw _ hox; omega) hgr
    replace O_t := Ow_ap O_t (by have h_ := hxw _ hox; omega) hgr
    replace Z_ := Nat.le_trans Z_ hgr.size
    replace M := mm_grows M (base := w.heap.size) (Nat.le_refl _) ⟨.inl (by show (69 : Nat) ≠ 107; decide), .inl (by show (69 : Nat) ≠ 107; decide), .inl (by show (69 : Nat) ≠ 107; decide), .inl (by show (69 : Nat) ≠ 107; decide), .inl (by show (72 : Nat) ≠ 107; decide), .inl (by show (69 : Nat) ≠ 107; decide), trivial⟩ ⟨some gx, hgr, fun g e => by injection e with e; subst e; exact ⟨Nat.le_trans S_.lim.1 (Nat.le_trans hlx hbx), cx, hcx⟩⟩
    clear O_x hcx hgr; try clear u
    refine wpList_nil ?_
    refine then_n ?_
    refine wp_seq ?_
    refine wp_seq ?_
    refine wp_region_lit ?_
    refine list_val F (wn rfl) rfl rfl (.pointer (some ⟨g7, 0, none⟩)) (ex_fa _ _ _ rfl _ (F.e rfl) 0 rx_fa_72_0_0 ⟨g7, 0, none⟩ rfl) ?_; clear F a; intro a F
    refine list_val F (wn rfl) rfl rfl (.int .i64 act) (ex_load _ _ rfl _ (F.e rfl) _ (lv1 rx_one_3 (M.cell (i := 4) rfl (j := 0) rfl))) ?_; clear F a; intro a F
    refine list_val F (wn rfl) rfl rfl (.bool true) (ex_bin .geq _ _ _ _ rfl .i64 _ _ (F.e rfl) rfl _ (b_geq (decide_eq_true (by omega)))) ?_; clear F a; intro a F
    refine list_val F (wn rfl) rfl rfl (.bool true) (ex_move _ rfl _ (F.e rfl)) ?_; clear F a; intro a F
    refine list_val F (F.wants 154 true rfl (by kernel_rfl) rfl true rfl) rfl rfl (.pointer (some ⟨g7, 0, none⟩)) (ex_fa _ _ _ rfl _ (F.e rfl) 0 rx_fa_72_0_0 ⟨g7, 0, none⟩ rfl) ?_; clear F a; intro a F
    refine list_val F (F.wants 154 true rfl (by kernel_rfl) rfl true rfl) rfl rfl (.int .i64 act) (ex_load _ _ rfl _ (F.e rfl) _ (lv1 rx_one_3 (M.cell (i := 4) rfl (j := 0) rfl))) ?_; clear F a; intro a F
    refine list_val F (F.wants 154 true rfl (by kernel_rfl) rfl true rfl) rfl rfl (.bool true) (ex_bin .leq _ _ _ _ rfl .i64 _ _ (F.e rfl) rfl _ (b_leq (decide_eq_true (by omega)))) ?_; clear F a; intro a F
    refine list_val F (wn rfl) rfl rfl (.bool true) (ex_pick_t _ _ _ rfl (F.e rfl) _ (F.e rfl)) ?_; clear F a; intro a F
    refine wpList_nil ?_
    refine then_n ?_
    refine wp_cond_true (F.e rfl) ?_
    refine wp_seq ?_
    refine wp_seq ?_
    refine wp_region_lit ?_
    refine list_val F (wn rfl) rfl rfl (.agg #[.slice gA q.keys.length gc, .int .u64 q.next]) (ex_load _ _ rfl _ (F.e rfl) _ (lvr (cs := [.slice gA q.keys.length gc, .int .u64 q.next]) rx_row_69_2 (M.at (i := 1) rfl))) ?_; clear F a; intro a F
    refine list_val F (wn rfl) rfl rfl (.agg #[.slice wA q.keys.length wc, .int .u64 q.next]) (ex_load _ _ rfl _ (F.e rfl) _ (lvr (cs := [.slice wA q.keys.length wc, .int .u64 q.next]) rx_row_69_2 (M.at (i := 3) rfl))) ?_; clear F a; intro a F
    refine list_do (wn rfl) (fun K hK => ?_)
    refine ow_call rfl rfl F 21 #[.agg #[.slice gA q.keys.length gc, .int .u64 q.next], .agg #[.slice wA q.keys.length wc, .int .u64 q.next]] (ex_call 21 _ _ rfl rfl rx_ent_21 _ (map2 (F.e rfl) (F.e rfl))) (eq_q q _ _ _ _ _ (own_ro O_g rfl _) (own_ro O_w rfl _)) (fun e u hR => ?_)
    obtain ⟨he, hb⟩ := hR
    refine ⟨.bool true, he, ?_⟩; clear he F a; intro a F
    refine hK _ _ ?_
    clear hK K
    replace S_ := S_.below hb
    replace O_w := O_w.below hb
    replace O_g := O_g.below hb
    replace O_t := O_t.below hb
    replace Z_ := Nat.le_trans Z_ hb.size
    replace M := M.below hb; clear hb; try clear v
    refine list_val F (wn rfl) rfl rfl (.bool false) (ex_not _ _ rfl _ (F.e rfl) _ rfl) ?_; clear F a; intro a F
    refine list_val F (wn rfl) rfl rfl (.bool false) (ex_move _ rfl _ (F.e rfl)) ?_; clear F a; intro a F
    refine list_val F (F.wants 163 false rfl (by kernel_rfl) rfl true rfl) rfl rfl (.int .i64 0) (ex_move _ rfl _ (F.e rfl)) ?_; clear F a; intro a F
    refine list_do (F.wants 163 false rfl (by kernel_rfl) rfl true rfl) (fun K hK => ?_)
    refine ow_call rfl rfl F 22 #[.int .i64 0] (ex_call 22 _ _ rfl rfl rx_ent_22 _ (map1 (F.e rfl))) (num_any _ _) (fun e v hR => ?_)
    obtain ⟨he, hw⟩ := hR
    replace hw := hw.symm
    refine ⟨.int .i64 0, he, ?_⟩; clear he F a; intro a F
    replace hw := hw.symm; subst hw
    refine hK _ _ ?_
    clear hK K
    refine list_val F (F.wants 163 false rfl (by kernel_rfl) rfl true rfl) rfl rfl (.int .i64 0) (ex_move _ rfl _ (F.e rfl)) ?_; clear F a; intro a F
    refine list_val F (F.wants 163 false rfl (by kernel_rfl) rfl true rfl) rfl rfl (.bool false) (ex_bin .neq _ _ _ _ rfl .i64 _ _ (F.e rfl) (F.e rfl) _ (b_neq (by decide))) ?_; clear F a; intro a F
    refine list_val F (wn rfl) rfl rfl (.bool false) (ex_pick_f _ _ _ rfl (F.e rfl) _ (F.e rfl)) ?_; clear F a; intro a F
    refine wpList_nil ?_
    refine then_n ?_
    refine wp_cond_false (F.e rfl) ?_
    refine wp_skip ?_
    refine then_n ?_
    refine wp_seq ?_
    have hlwg := hlg; have hlgt := hlt
    replace S_ := S_.setr O_w (Nat.le_trans S_.lim.1 hlw) (fun k hk => ⟨S_.fresh k (by have h_ := (Ow_lt O_w hk).1; omega), hwg k hk⟩) hlw (by omega) (Nat.le_trans hlt Z_)
    clear O_w
    refine wp_region_lit ?_
    refine list_val F (wn rfl) rfl rfl (.pointer (some ⟨g15, 0, none⟩)) (ex_move _ rfl _ (F.e rfl)) ?_; clear F a; intro a F
    refine list_val F (wn rfl) rfl rfl (.agg #[.slice gA q.keys.length gc, .int .u64 q.next]) (ex_load _ _ rfl _ (F.e rfl) _ (lvr (cs := [.slice gA q.keys.length gc, .int .u64 q.next]) rx_row_69_2 (M.at (i := 1) rfl))) ?_; clear F a; intro a F
    refine list_do (wn rfl) (fun K hK => ?_)
    refine ow_call rfl rfl F 23 #[.pointer (some ⟨g15, 0, none⟩), .agg #[.slice gA q.keys.length gc, .int .u64 q.next]] (ex_call 23 _ _ rfl rfl rx_ent_23 _ (map2 (F.e rfl) (F.e rfl))) (bookRing_any own w.heap.size bg g15 g17 tn wA wc q.keys _ S_ bg (by omega) gA gc q.keys q.next O_g bt hgt (by omega) Z_ (by omega) (by omega)) (fun e v hR => ?_)
    obtain ⟨he, own2, S2, ho2, ho⟩ := hR
    refine ⟨.tuple #[], he, ?_⟩; clear he F a; intro a F
    refine hK _ _ ?_
    clear hK K
    replace M := mm_onlyT M ho (Nat.le_refl _) M.bel.size (fun k hk => Ow_cells O_g hk) ⟨⟨by show (69 : Nat) ∉ [50, 55, 3]; decide, by show (69 : Nat) ≠ 107; decide⟩, ⟨by show (69 : Nat) ∉ [50, 55, 3]; decide, by show (69 : Nat) ≠ 107; decide⟩, ⟨by show (69 : Nat) ∉ [50, 55, 3]; decide, by show (69 : Nat) ≠ 107; decide⟩, ⟨by show (69 : Nat) ∉ [50, 55, 3]; decide, by show (69 : Nat) ≠ 107; decide⟩, ⟨by show (72 : Nat) ∉ [50, 55, 3]; decide, by show (72 : Nat) ≠ 107; decide⟩, ⟨by show (69 : Nat) ∉ [50, 55, 3]; decide, by show (69 : Nat) ≠ 107; decide⟩, trivial⟩
    replace O_t := Ow_only O_t ho (by decide) (fun k hk e => by have h1 := (Ow_lt O_t hk).1; have h2 := hgt k e; omega)
    replace Z_ := Nat.le_trans Z_ ho.size
    clear S_ O_g ho ho2; have S_ := S2; clear S2; try clear u
    refine wpList_nil ?_
    refine then_n ?_
    refine wp_seq ?_
    refine wp_seq ?_
    refine wp_region_lit ?_
    refine list_val F (wn rfl) rfl rfl (.agg #[.slice tA q.keys.length tc, .int .u64 q.next]) (ex_load _ _ rfl _ (F.e rfl) _ (lvr (cs := [.slice tA q.keys.length tc, .int .u64 q.next]) rx_row_69_2 (M.at (i := 0) rfl))) ?_; clear F a; intro a F
    refine list_val F (wn rfl) rfl rfl (.agg #[.slice wA q.keys.length wc, .int .u64 q.next]) (ex_load _ _ rfl _ (F.e rfl) _ (lvr (cs := [.slice wA q.keys.length wc, .int .u64 q.next]) rx_row_69_2 (M.at (i := 3) rfl))) ?_; clear F a; intro a F
    refine list_do (wn rfl) (fun K hK => ?_)
    refine ow_call rfl rfl F 21 #[.agg #[.slice tA q.keys.length tc, .int .u64 q.next], .agg #[.slice wA q.keys.length wc, .int .u64 q.next]] (ex_call 21 _ _ rfl rfl rx_ent_21 _ (map2 (F.e rfl) (F.e rfl))) (eq_q q _ _ _ _ _ (own_ro O_t rfl _) (own_ro (show OwnKeys _ _ (.slice wA q.keys.length wc) _ from S_.ring.1) rfl _)) (fun e u hR => ?_)
    obtain ⟨he, hb⟩ := hR
    refine ⟨.bool true, he, ?_⟩; clear he F a; intro a F
    refine hK _ _ ?_
    clear hK K
    replace S_ := S_.below hb
    replace O_t := O_t.below hb
    replace Z_ := Nat.le_trans Z_ hb.size
    replace M := M.below hb; clear hb; try clear v
    refine list_val F (wn rfl) rfl rfl (.bool false) (ex_not _ _ rfl _ (F.e rfl) _ rfl) ?_; clear F a; intro a F
    refine wpList_nil ?_
    replace F : Fr 199 a [(0, .slice (some adt) l.length c), (2, .bool false), (3, .pointer (some ⟨g15, 0, none⟩)), (4, .pointer (some ⟨g17, 0, none⟩)), (5, .pointer (some ⟨g5, 0, none⟩)), (6, .int .i64 i), (7, .pointer (some ⟨g7, 0, none⟩)), (8, .pointer (some ⟨g8, 0, none⟩)), (9, .int .i64 0), (10, .pointer (some ⟨g10, 0, none⟩)), (11, .pointer (some ⟨g11, 0, none⟩)), (12, .int .i64 0), (13, .pointer (some ⟨g13, 0, none⟩)), (26, .bool true), (38, .int .i64 act), (39, .bool true), (147, .bool false), (158, .bool true), (168, .bool false), (175, .bool false)] := F.keep ⟨rfl, rfl, rfl, rfl, rfl, rfl, rfl, rfl, rfl, rfl, rfl, rfl, rfl, rfl, rfl, rfl, rfl, rfl, rfl, rfl, trivial⟩
    refine then_n ?_
    refine wp_cond_false (F.e rfl) ?_
    refine wp_skip ?_
    refine then_n ?_
    refine wp_seq ?_
    refine wp_region_lit ?_
    refine list_val F (wn rfl) rfl rfl (.pointer (some ⟨g15, 0, none⟩)) (ex_move _ rfl _ (F.e rfl)) ?_; clear F a; intro a F
    refine list_val F (wn rfl) rfl rfl (.agg #[.slice tA q.keys.length tc, .int .u64 q.next]) (ex_load _ _ rfl _ (F.e rfl) _ (lvr (cs := [.slice tA q.keys.length tc, .int .u64 q.next]) rx_row_69_2 (M.at (i := 0) rfl))) ?_; clear F a; intro a F
    refine list_do (wn rfl) (fun K hK => ?_)
    refine ow_call rfl rfl F 23 #[.pointer (some ⟨g15, 0, none⟩), .agg #[.slice tA q.keys.length tc, .int .u64 q.next]] (ex_call 23 _ _ rfl rfl rx_ent_23 _ (map2 (F.e rfl) (F.e rfl))) (bookRing_any own2 w.heap.size bt g15 g17 (tn + 1) wA wc q.keys _ S_ bt (by omega) tA tc q.keys q.next O_t u.heap.size (fun k hk => (Ow_lt O_t hk).2) (by omega) (Nat.le_refl _) (by omega) (by omega)) (fun e v hR => ?_)
    obtain ⟨he, own3, S2, ho2, ho⟩ := hR
    refine ⟨.tuple #[], he, ?_⟩; clear he F a; intro a F
    refine hK _ _ ?_
    clear hK K
    replace M := mm_onlyT M ho (Nat.le_refl _) M.bel.size (fun k hk => Ow_cells O_t hk) ⟨⟨by show (69 : Nat) ∉ [50, 55, 3]; decide, by show (69 : Nat) ≠ 107; decide⟩, ⟨by show (69 : Nat) ∉ [50, 55, 3]; decide, by show (69 : Nat) ≠ 107; decide⟩, ⟨by show (69 : Nat) ∉ [50, 55, 3]; decide, by show (69 : Nat) ≠ 107; decide⟩, ⟨by show (69 : Nat) ∉ [50, 55, 3]; decide, by show (69 : Nat) ≠ 107; decide⟩, ⟨by show (72 : Nat) ∉ [50, 55, 3]; decide, by show (72 : Nat) ≠ 107; decide⟩, ⟨by show (69 : Nat) ∉ [50, 55, 3]; decide, by show (69 : Nat) ≠ 107; decide⟩, trivial⟩
    obtain ⟨lf, hlf⟩ : ∃ l, l = u.heap.size := ⟨_, rfl⟩
    rw [← hlf] at S2
    have hlf2 : bt ≤ lf := by rw [hlf]; exact Z_
    clear hlf
    clear S_ O_t ho ho2; have S_ := S2; clear S2 Z_; try clear u
    refine wpList_nil ?_
    refine then_n ?_
    refine wp_seq ?_
    refine wp_region_lit ?_
    refine list_val F (wn rfl) rfl rfl (.int .i64 0) (ex_move _ rfl _ (F.e rfl)) ?_; clear F a; intro a F
    refine list_val F (wn rfl) rfl rfl (.bool false) (ex_bin .neq _ _ _ _ rfl .i64 _ _ (F.e rfl) rfl _ (b_neq (by decide))) ?_; clear F a; intro a F
    refine wpList_nil ?_
    refine then_n ?_
    refine wp_cond_false (F.e rfl) ?_
    refine wp_skip ?_
    refine then_n ?_
    refine wp_seq ?_
    refine wp_region_lit ?_
    refine list_val F (wn rfl) rfl rfl (.agg #[.slice wA q.keys.length wc, .int .u64 q.next]) (ex_load _ _ rfl _ (F.e rfl) _ (lvr (cs := [.slice wA q.keys.length wc, .int .u64 q.next]) rx_row_69_2 (M.at (i := 3) rfl))) ?_; clear F a; intro a F
    refine list_do (wn rfl) (fun K hK => ?_)
    refine ow_put F M rfl 69 _ _ rfl 5 _ #[.slice RA rks.length rc, .int .u64 rnx] _ rfl (F.e rfl) #[.slice wA q.keys.length wc, .int .u64 q.next] (F.e rfl) (sz_row (m := 2) rx_row_69_2) rfl (by simp [Value.oneCell']) ?_
    clear F a; have Mo := M; clear M; intro a u F M hgr
    refine hK _ _ ?_
    clear hK K
    replace S_ := S_.grown (Mo.blk 5 _ rfl) (by show (69 : Nat) ≠ 50 ∧ (69 : Nat) ≠ 55 ∧ (69 : Nat) ≠ 3 ∧ (69 : Nat) ≠ 66 ∧ (69 : Nat) ≠ 107; decide) hgr
    clear Mo hgr; try clear v
    replace M : Mm w u [⟨g13, #[.slice tA q.keys.length tc, .int .u64 q.next], 69⟩, ⟨g11, #[.slice gA q.keys.length gc, .int .u64 q.next], 69⟩, ⟨g10, #[.slice XA rks.length xc, .int .u64 rnx], 69⟩, ⟨g8, #[.slice wA q.keys.length wc, .int .u64 q.next], 69⟩, ⟨g7, (stepCs act s tm kid (.slice B ks.length b) next).toArray, 72⟩, ⟨g5, #[.slice wA q.keys.length wc, .int .u64 q.next], 69⟩] := M
    refine wpList_nil ?_
    refine then_n ?_
    refine wp_seq ?_
    refine wp_region_lit ?_
    refine list_val F (wn rfl) rfl rfl (.agg #[.slice wA q.keys.length wc, .int .u64 q.next]) (ex_load _ _ rfl _ (F.e rfl) _ (lvr (cs := [.slice wA q.keys.length wc, .int .u64 q.next]) rx_row_69_2 (M.at (i := 5) rfl))) ?_; clear F a; intro a F
    refine list_val F (wn rfl) rfl rfl (.pointer (some ⟨g7, 34, none⟩)) (ex_fa _ _ _ rfl _ (F.e rfl) 34 rx_fa_72_3_34 ⟨g7, 34, none⟩ rfl) ?_; clear F a; intro a F
    refine list_val F (wn rfl) rfl rfl (.int .u64 kid) (ex_load _ _ rfl _ (F.e rfl) _ (lv1 rx_one_67 (M.cell (i := 4) rfl (j := 34) step_a34))) ?_; clear F a; intro a F
    refine list_do (wn rfl) (fun K hK => ?_)
    refine ow_call rfl rfl F 17 #[.agg #[.slice wA q.keys.length wc, .int .u64 q.next], .int .u64 kid] (ex_call 17 _ _ rfl rfl rx_ent_17 _ (map2 (F.e rfl) (F.e rfl))) (asks_any q.keys wA wc q.next kid _ S_.rd S_.rc (by omega)) (fun e v hR => ?_)
    obtain ⟨he, hb⟩ := hR
    refine ⟨.bool true, he, ?_⟩; clear he F a; intro a F
    refine hK _ _ ?_
    clear hK K
    replace S_ := S_.below hb
    replace M := M.below hb; clear hb; try clear u
    refine list_val F (wn rfl) rfl rfl (.bool false) (ex_not _ _ rfl _ (F.e rfl) _ rfl) ?_; clear F a; intro a F
    refine list_val F (wn rfl) rfl rfl (.bool false) (ex_move _ rfl _ (F.e rfl)) ?_; clear F a; intro a F
    refine list_val F (F.wants 188 false rfl (by kernel_rfl) rfl true rfl) rfl rfl (.pointer (some ⟨g17, 0, none⟩)) (ex_move _ rfl _ (F.e rfl)) ?_; clear F a; intro a F
    refine list_val F (F.wants 188 false rfl (by kernel_rfl) rfl true rfl) rfl rfl (.agg #[.slice wA q.keys.length wc, .int .u64 q.next]) (ex_load _ _ rfl _ (F.e rfl) _ (lvr (cs := [.slice wA q.keys.length wc, .int .u64 q.next]) rx_row_69_2 (M.at (i := 5) rfl))) ?_; clear F a; intro a F
    refine list_do (F.wants 188 false rfl (by kernel_rfl) rfl true rfl) (fun K hK => ?_)
    refine ow_call rfl rfl F 24 #[.pointer (some ⟨g17, 0, none⟩), .agg #[.slice wA q.keys.length wc, .int .u64 q.next]] (ex_call 24 _ _ rfl rfl rx_ent_24 _ (map2 (F.e rfl) (F.e rfl))) (placed_any own3 w.heap.size lf g15 g17 (tn + 1 + 1) wA wc q.keys _ S_ q.next (by omega)) (fun e u hR => ?_)
    obtain ⟨he, S2, x_, ho, hx_⟩ := hR
    refine ⟨.bool true, he, ?_⟩; clear he F a; intro a F
    refine hK _ _ ?_
    clear hK K
    replace M := mm_onlyT M ho (Nat.le_refl _) M.bel.size (fun k hk => (hx_ k hk).2) ⟨⟨by show (69 : Nat) ∉ [66]; decide, by show (69 : Nat) ≠ 107; decide⟩, ⟨by show (69 : Nat) ∉ [66]; decide, by show (69 : Nat) ≠ 107; decide⟩, ⟨by show (69 : Nat) ∉ [66]; decide, by show (69 : Nat) ≠ 107; decide⟩, ⟨by show (69 : Nat) ∉ [66]; decide, by show (69 : Nat) ≠ 107; decide⟩, ⟨by show (72 : Nat) ∉ [66]; decide, by show (72 : Nat) ≠ 107; decide⟩, ⟨by show (69 : Nat) ∉ [66]; decide, by show (69 : Nat) ≠ 107; decide⟩, trivial⟩
    obtain ⟨lz, hlz⟩ : ∃ l, l = u.heap.size := ⟨_, rfl⟩
    rw [← hlz] at S2
    clear S_ ho hx_ hlz; have S_ := S2; clear S2; try clear v
    refine list_val F (F.wants 188 false rfl (by kernel_rfl) rfl true rfl) rfl rfl (.bool false) (ex_not _ _ rfl _ (F.e rfl) _ rfl) ?_; clear F a; intro a F
    refine list_val F (wn rfl) rfl rfl (.bool false) (ex_pick_f _ _ _ rfl (F.e rfl) _ (F.e rfl)) ?_; clear F a; intro a F
    refine wpList_nil ?_
    refine then_n ?_
    refine wp_cond_false (F.e rfl) ?_
    refine wp_skip ?_
    refine in_n ?_
    refine then_n ?_
    refine wp_region_lit ?_
    refine list_val F (wn rfl) rfl rfl (.int .i64 i) (ex_move _ rfl _ (F.e rfl)) ?_; clear F a; intro a F
    refine list_val F (wn rfl) rfl rfl (.int .i64 (i + 1)) (ex_bin .add _ _ _ _ rfl .i64 _ _ (F.e rfl) rfl _ (b_add (w_i64 (by omega) (by omega)))) ?_; clear F a; intro a F
    refine list_val F (wn rfl) rfl rfl (.int .i64 (i + 1)) (ex_assign _ rfl _ (F.e rfl)) ?_; clear F a; intro a F
    refine wpList_nil ?_
    refine then_n ?_
    exact ⟨l.length - (i + 1), by omega, (i + 1), own3, lz, (tn + 1 + 1), wA, wc, q.keys, q.next, F.keep ⟨rfl, rfl, rfl, rfl, rfl, rfl, trivial⟩, (by refine M.pick' [5] _ ?_ (by decide); exact ⟨rfl, trivial⟩), S_, (by omega), (by omega), (by omega), (by omega), (by omega), (by omega)⟩
   refine wp_region_lit ?_
   refine list_val F (wn rfl) rfl rfl (.bool false) (ex_bin .eql _ _ _ _ rfl .i64 _ _ (F.e rfl) rfl _ (b_eql (beq_eq_false_iff_ne.2 ha1))) ?_; clear F a; intro a F
   refine list_val F (wn rfl) rfl rfl (.bool false) (ex_assign _ rfl _ (F.e rfl)) ?_; clear F a; intro a F
   refine wpList_nil ?_
   refine then_n ?_
   refine wp_cond_false (F.e rfl) ?_
   refine wp_seq ?_
   by_cases ha2 : act = 2
   ·
    obtain ⟨q, n, hq⟩ : ∃ q n, rotateF ⟨rks, rnx⟩ s tm = (q, n) := ⟨_, _, rfl⟩
    have hqb := rot_bd hq hrn0
    refine wp_region_lit ?_
    refine list_val F (wn rfl) rfl rfl (.bool true) (ex_bin .eql _ _ _ _ rfl .i64 _ _ (F.e rfl) rfl _ (b_eql (by rw [ha2]; rfl))) ?_; clear F a; intro a F
    refine list_val F (wn rfl) rfl rfl (.bool true) (ex_assign _ rfl _ (F.e rfl)) ?_; clear F a; intro a F
    refine wpList_nil ?_
    refine then_n ?_
    refine wp_cond_true (F.e rfl) ?_
    refine wp_seq ?_
    refine wp_region_lit ?_
    refine list_val F (wn rfl) rfl rfl (.agg #[.slice RA rks.length rc, .int .u64 rnx]) (ex_load _ _ rfl _ (F.e rfl) _ (lvr (cs := [.slice RA rks.length rc, .int .u64 rnx]) rx_row_69_2 (M.at (i := 5) rfl))) ?_; clear F a; intro a F
    refine list_val F (wn rfl) rfl rfl (.pointer (some ⟨g7, 1, none⟩)) (ex_fa _ _ _ rfl _ (F.e rfl) 1 rx_fa_72_1_1 ⟨g7, 1, none⟩ rfl) ?_; clear F a; intro a F
    refine list_val F (wn rfl) rfl rfl (.agg s.cs.toArray) (ex_load _ _ rfl _ (F.e rfl) _ (lvr (cs := s.cs) (by rw [Bs.cs_len]; exact rx_row_70_32) (step_sec (M.at (i := 4) rfl)))) ?_; clear F a; intro a F
    refine list_val F (wn rfl) rfl rfl (.pointer (some ⟨g7, 33, none⟩)) (ex_fa _ _ _ rfl _ (F.e rfl) 33 rx_fa_72_2_33 ⟨g7, 33, none⟩ rfl) ?_; clear F a; intro a F
    refine list_val F (wn rfl) rfl rfl (.int .i64 tm) (ex_load _ _ rfl _ (F.e rfl) _ (lv1 rx_one_2 (M.cell (i := 4) rfl (j := 33) step_a33))) ?_; clear F a; intro a F
    refine list_do (wn rfl) (fun K hK => ?_)
    obtain ⟨bw, hbw_⟩ : ∃ b, b = v.heap.size := ⟨_, rfl⟩
    have hxw : ∀ k, (Value.slice XA (rks ++ marks).length xc).ownBlock = some k → k < bw := fun k hk => by rw [hbw_]; exact (Ow_lt O_x hk).2
    have hlw : lim ≤ bw := by rw [hbw_]; exact S_.lim.2
    refine ow_call rfl rfl F 11 #[.agg #[.slice RA rks.length rc, .int .u64 rnx], .agg s.cs.toArray, .int .i64 tm] (ex_call 11 _ _ rfl rfl rx_ent_11 _ (map3 (F.e rfl) (F.e rfl) (F.e rfl))) (rrot_o hq RA rc _ S_.rd S_.rc hrn0) (fun e u hR => ?_)
    obtain ⟨wA, wc, he, O_w, hb⟩ := hR
    replace O_w : Ow kKey 107 u bw (.slice wA q.keys.length wc) q.keys := by rw [hbw_]; exact O_w
    have Z_ : bw ≤ u.heap.size := by rw [hbw_]; exact hb.size
    clear hbw_
    refine ⟨.tuple #[.agg #[.slice wA q.keys.length wc, .int .u64 q.next], .int .i64 n], he, ?_⟩; clear he F a; intro a F
    refine hK _ _ ?_
    clear hK K
    replace S_ := S_.below hb
    replace O_x := O_x.below hb
    replace M := M.below hb; clear hb; try clear v
    refine list_val F (wn rfl) rfl rfl (.tuple #[.agg #[.slice wA q.keys.length wc, .int .u64 q.next], .int .i64 n]) (ex_move _ rfl _ (F.e rfl)) ?_; clear F a; intro a F
    refine list_val F (wn rfl) rfl rfl (.agg #[.slice wA q.keys.length wc, .int .u64 q.next]) (ex_extract _ _ rfl _ (F.e rfl) _ rfl) ?_; clear F a; intro a F
    refine list_val F (wn rfl) rfl rfl (.int .i64 n) (ex_extract _ _ rfl _ (F.e rfl) _ rfl) ?_; clear F a; intro a F
    refine list_do (wn rfl) (fun K hK => ?_)
    refine ow_put F M rfl 69 _ _ rfl 3 _ #[.slice RA rks.length rc, .int .u64 rnx] _ rfl (F.e rfl) #[.slice wA q.keys.length wc, .int .u64 q.next] (F.e rfl) (sz_row (m := 2) rx_row_69_2) rfl (by simp [Value.oneCell']) ?_
    clear F a; have Mo := M; clear M; intro a v F M hgr
    refine hK _ _ ?_
    clear hK K
    replace S_ := S_.grown (Mo.blk 3 _ rfl) (by show (69 : Nat) ≠ 50 ∧ (69 : Nat) ≠ 55 ∧ (69 : Nat) ≠ 3 ∧ (69 : Nat) ≠ 66 ∧ (69 : Nat) ≠ 107; decide) hgr
    replace O_x := Ow.grown (enc := Key.cs) (m := 34) (hl := Key.cs_len) (h1 := Key.cs_one) O_x (Mo.blk 3 _ rfl) (.inl (by show (107 : Nat) ≠ 69; decide)) hgr
    replace O_w := Ow.grown (enc := Key.cs) (m := 34) (hl := Key.cs_len) (h1 := Key.cs_one) O_w (Mo.blk 3 _ rfl) (.inl (by show (107 : Nat) ≠ 69; decide)) hgr
    replace Z_ := Nat.le_trans Z_ hgr.size
    clear Mo hgr; try clear u
    replace M : Mm w v [⟨g13, #[.slice none 0 0, .int .u64 0], 69⟩, ⟨g11, #[.slice RA rks.length rc, .int .u64 rnx], 69⟩, ⟨g10, #[.slice XA rks.length xc, .int .u64 rnx], 69⟩, ⟨g8, #[.slice wA q.keys.length wc, .int .u64 q.next], 69⟩, ⟨g7, (stepCs act s tm kid (.slice B ks.length b) next).toArray, 72⟩, ⟨g5, #[.slice RA rks.length rc, .int .u64 rnx], 69⟩] := M
    refine list_val F (wn rfl) rfl rfl (.int .i64 n) (ex_assign _ rfl _ (F.e rfl)) ?_; clear F a; intro a F
    refine wpList_nil ?_
    refine then_n ?_
    refine wp_seq ?_
    refine wp_region_lit ?_
    refine list_val F (wn rfl) rfl rfl (.agg #[.slice XA rks.length xc, .int .u64 rnx]) (ex_load _ _ rfl _ (F.e rfl) _ (lvr (cs := [.slice XA rks.length xc, .int .u64 rnx]) rx_row_69_2 (M.at (i := 2) rfl))) ?_; clear F a; intro a F
    refine list_val F (wn rfl) rfl rfl (.pointer (some ⟨g7, 1, none⟩)) (ex_fa _ _ _ rfl _ (F.e rfl) 1 rx_fa_72_1_1 ⟨g7, 1, none⟩ rfl) ?_; clear F a; intro a F
    refine list_val F (wn rfl) rfl rfl (.agg s.cs.toArray) (ex_load _ _ rfl _ (F.e rfl) _ (lvr (cs := s.cs) (by rw [Bs.cs_len]; exact rx_row_70_32) (step_sec (M.at (i := 4) rfl)))) ?_; clear F a; intro a F
    refine list_val F (wn rfl) rfl rfl (.pointer (some ⟨g7, 33, none⟩)) (ex_fa _ _ _ rfl _ (F.e rfl) 33 rx_fa_72_2_33 ⟨g7, 33, none⟩ rfl) ?_; clear F a; intro a F
    refine list_val F (wn rfl) rfl rfl (.int .i64 tm) (ex_load _ _ rfl _ (F.e rfl) _ (lv1 rx_one_2 (M.cell (i := 4) rfl (j := 33) step_a33))) ?_; clear F a; intro a F
    refine list_do (wn rfl) (fun K hK => ?_)
    obtain ⟨bg, hbg_⟩ : ∃ b, b = v.heap.size := ⟨_, rfl⟩
    have hwg : ∀ k, (Value.slice wA q.keys.length wc).ownBlock = some k → k < bg := fun k hk => by rw [hbg_]; exact (Ow_lt O_w hk).2
    have hlg : bw ≤ bg := by rw [hbg_]; exact Z_
    refine ow_call rfl rfl F 12 #[.agg #[.slice XA rks.length xc, .int .u64 rnx], .agg s.cs.toArray, .int .i64 tm] (ex_call 12 _ _ rfl rfl rx_ent_12 _ (map3 (F.e rfl) (F.e rfl) (F.e rfl))) (rot_o hq XA xc _ (lent_rd O_x) (lent_le O_x) hrn0) (fun e u hR => ?_)
    obtain ⟨gA, gc, he, O_g, hb⟩ := hR
    replace O_g : Ow kKey 107 u bg (.slice gA q.keys.length gc) q.keys := by rw [hbg_]; exact O_g
    replace Z_ : bg ≤ u.heap.size := by rw [hbg_]; exact hb.size
    clear hbg_
    refine ⟨.tuple #[.agg #[.slice gA q.keys.length gc, .int .u64 q.next], .int .i64 n], he, ?_⟩; clear he F a; intro a F
    refine hK _ _ ?_
    clear hK K
    replace S_ := S_.below hb
    replace O_x := O_x.below hb
    replace O_w := O_w.below hb
    replace M := M.below hb; clear hb; try clear v
    refine list_val F (wn rfl) rfl rfl (.tuple #[.agg #[.slice gA q.keys.length gc, .int .u64 q.next], .int .i64 n]) (ex_move _ rfl _ (F.e rfl)) ?_; clear F a; intro a F
    refine list_val F (wn rfl) rfl rfl (.agg #[.slice gA q.keys.length gc, .int .u64 q.next]) (ex_extract _ _ rfl _ (F.e rfl) _ rfl) ?_; clear F a; intro a F
    refine list_val F (wn rfl) rfl rfl (.int .i64 n) (ex_extract _ _ rfl _ (F.e rfl) _ rfl) ?_; clear F a; intro a F
    refine list_do (wn rfl) (fun K hK => ?_)
    refine ow_put F M rfl 69 _ _ rfl 1 _ #[.slice RA rks.length rc, .int .u64 rnx] _ rfl (F.e rfl) #[.slice gA q.keys.length gc, .int .u64 q.next] (F.e rfl) (sz_row (m := 2) rx_row_69_2) rfl (by simp [Value.oneCell']) ?_
    clear F a; have Mo := M; clear M; intro a v F M hgr
    refine hK _ _ ?_
    clear hK K
    replace S_ := S_.grown (Mo.blk 1 _ rfl) (by show (69 : Nat) ≠ 50 ∧ (69 : Nat) ≠ 55 ∧ (69 : Nat) ≠ 3 ∧ (69 : Nat) ≠ 66 ∧ (69 : Nat) ≠ 107; decide) hgr
    replace O_x := Ow.grown (enc := Key.cs) (m := 34) (hl := Key.cs_len) (h1 := Key.cs_one) O_x (Mo.blk 1 _ rfl) (.inl (by show (107 : Nat) ≠ 69; decide)) hgr
    replace O_w := Ow.grown (enc := Key.cs) (m := 34) (hl := Key.cs_len) (h1 := Key.cs_one) O_w (Mo.blk 1 _ rfl) (.inl (by show (107 : Nat) ≠ 69; decide)) hgr
    replace O_g := Ow.grown (enc := Key.cs) (m := 34) (hl := Key.cs_len) (h1 := Key.cs_one) O_g (Mo.blk 1 _ rfl) (.inl (by show (107 : Nat) ≠ 69; decide)) hgr
    replace Z_ := Nat.le_trans Z_ hgr.size
    clear Mo hgr; try clear u
    replace M : Mm w v [⟨g13, #[.slice none 0 0, .int .u64 0], 69⟩, ⟨g11, #[.slice gA q.keys.length gc, .int .u64 q.next], 69⟩, ⟨g10, #[.slice XA rks.length xc, .int .u64 rnx], 69⟩, ⟨g8, #[.slice wA q.keys.length wc, .int .u64 q.next], 69⟩, ⟨g7, (stepCs act s tm kid (.slice B ks.length b) next).toArray, 72⟩, ⟨g5, #[.slice RA rks.length rc, .int .u64 rnx], 69⟩] := M
    refine list_val F (wn rfl) rfl rfl (.int .i64 n) (ex_assign _ rfl _ (F.e rfl)) ?_; clear F a; intro a F
    refine wpList_nil ?_
    refine then_n ?_
    refine wp_region_lit ?_
    refine list_val F (wn rfl) rfl rfl (.agg #[.slice XA rks.length xc, .int .u64 rnx]) (ex_load _ _ rfl _ (F.e rfl) _ (lvr (cs := [.slice XA rks.length xc, .int .u64 rnx]) rx_row_69_2 (M.at (i := 2) rfl))) ?_; clear F a; intro a F
    refine list_val F (wn rfl) rfl rfl (.pointer (some ⟨g7, 1, none⟩)) (ex_fa _ _ _ rfl _ (F.e rfl) 1 rx_fa_72_1_1 ⟨g7, 1, none⟩ rfl) ?_; clear F a; intro a F
    refine list_val F (wn rfl) rfl rfl (.agg s.cs.toArray) (ex_load _ _ rfl _ (F.e rfl) _ (lvr (cs := s.cs) (by rw [Bs.cs_len]; exact rx_row_70_32) (step_sec (M.at (i := 4) rfl)))) ?_; clear F a; intro a F
    refine list_val F (wn rfl) rfl rfl (.pointer (some ⟨g7, 33, none⟩)) (ex_fa _ _ _ rfl _ (F.e rfl) 33 rx_fa_72_2_33 ⟨g7, 33, none⟩ rfl) ?_; clear F a; intro a F
    refine list_val F (wn rfl) rfl rfl (.int .i64 tm) (ex_load _ _ rfl _ (F.e rfl) _ (lv1 rx_one_2 (M.cell (i := 4) rfl (j := 33) step_a33))) ?_; clear F a; intro a F
    refine list_do (wn rfl) (fun K hK => ?_)
    obtain ⟨bt, hbt_⟩ : ∃ b, b = v.heap.size := ⟨_, rfl⟩
    have hgt : ∀ k, (Value.slice gA q.keys.length gc).ownBlock = some k → k < bt := fun k hk => by rw [hbt_]; exact (Ow_lt O_g hk).2
    have hlt : bg ≤ bt := by rw [hbt_]; exact Z_
    refine ow_call rfl rfl F 12 #[.agg #[.slice XA rks.length xc, .int .u64 rnx], .agg s.cs.toArray, .int .i64 tm] (ex_call 12 _ _ rfl rfl rx_ent_12 _ (map3 (F.e rfl) (F.e rfl) (F.e rfl))) (rot_o hq XA xc _ (lent_rd O_x) (lent_le O_x) hrn0) (fun e u hR => ?_)
    obtain ⟨tA, tc, he, O_t, hb⟩ := hR
    replace O_t : Ow kKey 107 u bt (.slice tA q.keys.length tc) q.keys := by rw [hbt_]; exact O_t
    replace Z_ : bt ≤ u.heap.size := by rw [hbt_]; exact hb.size
    clear hbt_
    refine ⟨.tuple #[.agg #[.slice tA q.keys.length tc, .int .u64 q.next], .int .i64 n], he, ?_⟩; clear he F a; intro a F
    refine hK _ _ ?_
    clear hK K
    replace S_ := S_.below hb
    replace O_x := O_x.below hb
    replace O_w := O_w.below hb
    replace O_g := O_g.below hb
    replace M := M.below hb; clear hb; try clear v
    refine list_val F (wn rfl) rfl rfl (.tuple #[.agg #[.slice tA q.keys.length tc, .int .u64 q.next], .int .i64 n]) (ex_move _ rfl _ (F.e rfl)) ?_; clear F a; intro a F
    refine list_val F (wn rfl) rfl rfl (.agg #[.slice tA q.keys.length tc, .int .u64 q.next]) (ex_extract _ _ rfl _ (F.e rfl) _ rfl) ?_; clear F a; intro a F
    refine list_val F (wn rfl) rfl rfl (.int .i64 n) (ex_extract _ _ rfl _ (F.e rfl) _ rfl) ?_; clear F a; intro a F
    refine list_do (wn rfl) (fun K hK => ?_)
    refine ow_put F M rfl 69 _ _ rfl 0 _ #[.slice none 0 0, .int .u64 0] _ rfl (F.e rfl) #[.slice tA q.keys.length tc, .int .u64 q.next] (F.e rfl) (sz_row (m := 2) rx_row_69_2) rfl (by simp [Value.oneCell']) ?_
    clear F a; have Mo := M; clear M; intro a v F M hgr
    refine hK _ _ ?_
    clear hK K
    replace S_ := S_.grown (Mo.blk 0 _ rfl) (by show (69 : Nat) ≠ 50 ∧ (69 : Nat) ≠ 55 ∧ (69 : Nat) ≠ 3 ∧ (69 : Nat) ≠ 66 ∧ (69 : Nat) ≠ 107; decide) hgr
    replace O_x := Ow.grown (enc := Key.cs) (m := 34) (hl := Key.cs_len) (h1 := Key.cs_one) O_x (Mo.blk 0 _ rfl) (.inl (by show (107 : Nat) ≠ 69; decide)) hgr
    replace O_w := Ow.grown (enc := Key.cs) (m := 34) (hl := Key.cs_len) (h1 := Key.cs_one) O_w (Mo.blk 0 _ rfl) (.inl (by show (107 : Nat) ≠ 69; decide)) hgr
    replace O_g := Ow.grown (enc := Key.cs) (m := 34) (hl := Key.cs_len) (h1 := Key.cs_one) O_g (Mo.blk 0 _ rfl) (.inl (by show (107 : Nat) ≠ 69; decide)) hgr
    replace O_t := Ow.grown (enc := Key.cs) (m := 34) (hl := Key.cs_len) (h1 := Key.cs_one) O_t (Mo.blk 0 _ rfl) (.inl (by show (107 : Nat) ≠ 69; decide)) hgr
    replace Z_ := Nat.le_trans Z_ hgr.size
    clear Mo hgr; try clear u
    replace M : Mm w v [⟨g13, #[.slice tA q.keys.length tc, .int .u64 q.next], 69⟩, ⟨g11, #[.slice gA q.keys.length gc, .int .u64 q.next], 69⟩, ⟨g10, #[.slice XA rks.length xc, .int .u64 rnx], 69⟩, ⟨g8, #[.slice wA q.keys.length wc, .int .u64 q.next], 69⟩, ⟨g7, (stepCs act s tm kid (.slice B ks.length b) next).toArray, 72⟩, ⟨g5, #[.slice RA rks.length rc, .int .u64 rnx], 69⟩] := M
    refine wpList_nil ?_
    replace F : Fr 199 a [(0, .slice (some adt) l.length c), (2, .bool false), (3, .pointer (some ⟨g15, 0, none⟩)), (4, .pointer (some ⟨g17, 0, none⟩)), (5, .pointer (some ⟨g5, 0, none⟩)), (6, .int .i64 i), (7, .pointer (some ⟨g7, 0, none⟩)), (8, .pointer (some ⟨g8, 0, none⟩)), (9, .int .i64 n), (10, .pointer (some ⟨g10, 0, none⟩)), (11, .pointer (some ⟨g11, 0, none⟩)), (12, .int .i64 n), (13, .pointer (some ⟨g13, 0, none⟩)), (26, .bool true), (38, .int .i64 act), (39, .bool false), (50, .bool true)] := F.keep ⟨rfl, rfl, rfl, rfl, rfl, rfl, rfl, rfl, rfl, rfl, rfl, rfl, rfl, rfl, rfl, rfl, rfl, trivial⟩
    refine in_n ?_
    refine then_n ?_
    refine wp_seq ?_
    refine wp_seq ?_
    refine wp_region_lit ?_
    refine list_val F (wn rfl) rfl rfl (.pointer (some ⟨g10, 0, none⟩)) (ex_fa _ _ _ rfl _ (F.e rfl) 0 rx_fa_69_0_0 ⟨g10, 0, none⟩ rfl) ?_; clear F a; intro a F
    refine list_val F (wn rfl) rfl rfl (.slice XA rks.length xc) (ex_load _ _ rfl _ (F.e rfl) _ (lv1 rx_one_55 (M.cell (i := 2) rfl (j := 0) rfl))) ?_; clear F a; intro a F
    refine list_val F (wn rfl) rfl rfl (.pointer (some ⟨g5, 0, none⟩)) (ex_fa _ _ _ rfl _ (F.e rfl) 0 rx_fa_69_0_0 ⟨g5, 0, none⟩ rfl) ?_; clear F a; intro a F
    refine list_val F (wn rfl) rfl rfl (.slice RA rks.length rc) (ex_load _ _ rfl _ (F.e rfl) _ (lv1 rx_one_55 (M.cell (i := 5) rfl (j := 0) rfl))) ?_; clear F a; intro a F
    refine list_do (wn rfl) (fun K hK => ?_)
    refine ow_call rfl rfl F 19 #[.slice XA rks.length xc, .slice RA rks.length rc] (ex_call 19 _ _ rfl rfl rx_ent_19 _ (map2 (F.e rfl) (F.e rfl))) (backKeys_any rks _ xc _ rc _ (Ow.rd (k := kKey) O_x).1 (Ow.rd (k := kKey) O_x).2.2 S_.rd S_.rc (by omega)) (fun e u hR => ?_)
    obtain ⟨he, hb⟩ := hR
    refine ⟨.bool true, he, ?_⟩; clear he F a; intro a F
    refine hK _ _ ?_
    clear hK K
    replace S_ := S_.below hb
    replace O_x := O_x.below hb
    replace O_w := O_w.below hb
    replace O_g := O_g.below hb
    replace O_t := O_t.below hb
    replace Z_ := Nat.le_trans Z_ hb.size
    replace M := M.below hb; clear hb; try clear v
    refine list_val F (wn rfl) rfl rfl (.bool false) (ex_not _ _ rfl _ (F.e rfl) _ rfl) ?_; clear F a; intro a F
    refine wpList_nil ?_
    refine then_n ?_
    refine wp_cond_false (F.e rfl) ?_
    refine wp_skip ?_
    refine then_n ?_
    refine wp_seq ?_
    refine wp_region_lit ?_
    refine list_val F (wn rfl) rfl rfl (.pointer (some ⟨g10, 0, none⟩)) (ex_fa _ _ _ rfl _ (F.e rfl) 0 rx_fa_69_0_0 ⟨g10, 0, none⟩ rfl) ?_; clear F a; intro a F
    refine list_val F (wn rfl) rfl rfl (.slice XA rks.length xc) (ex_load _ _ rfl _ (F.e rfl) _ (lv1 rx_one_55 (M.cell (i := 2) rfl (j := 0) rfl))) ?_; clear F a; intro a F
    refine list_do (wn rfl) (fun K hK => ?_)
    refine ow_call rfl rfl F 20 #[.slice XA rks.length xc] (ex_call 20 _ _ rfl rfl rx_ent_20 _ (map1 (F.e rfl))) (over_own O_x (by omega)) (fun e v hR => ?_)
    obtain ⟨he, gx, cx, hcx, hbx, hox, hgr⟩ := hR
    refine ⟨.tuple #[], he, ?_⟩; clear he F a; intro a F
    refine hK _ _ ?_
    clear hK K
    replace S_ := S_.over hcx hlx hbx hgr
    replace O_w := Ow_ap O_w (by have h_ := hxw _ hox; omega) hgr
    replace O_g := Ow_ap O_g (by have h_ := hxw _ hox; omega) hgr
    replace O_t := Ow_ap O_t (by have h_ := hxw _ hox; omega) hgr
    replace Z_ := Nat.le_trans Z_ hgr.size
    replace M := mm_grows M (base := w.heap.size) (Nat.le_refl _) ⟨.inl (by show (69 : Nat) ≠ 107; decide), .inl (by show (69 : Nat) ≠ 107; decide), .inl (by show (69 : Nat) ≠ 107; decide), .inl (by show (69 : Nat) ≠ 107; decide), .inl (by show (72 : Nat) ≠ 107; decide), .inl (by show (69 : Nat) ≠ 107; decide), trivial⟩ ⟨some gx, hgr, fun g e => by injection e with e; subst e; exact ⟨Nat.le_trans S_.lim.1 (Nat.le_trans hlx hbx), cx, hcx⟩⟩
    clear O_x hcx hgr; try clear u
    refine wpList_nil ?_
    refine then_n ?_
    refine wp_seq ?_
    refine wp_seq ?_
    refine wp_region_lit ?_
    refine list_val F (wn rfl) rfl rfl (.pointer (some ⟨g7, 0, none⟩)) (ex_fa _ _ _ rfl _ (F.e rfl) 0 rx_fa_72_0_0 ⟨g7, 0, none⟩ rfl) ?_; clear F a; intro a F
    refine list_val F (wn rfl) rfl rfl (.int .i64 act) (ex_load _ _ rfl _ (F.e rfl) _ (lv1 rx_one_3 (M.cell (i := 4) rfl (j := 0) rfl))) ?_; clear F a; intro a F
    refine list_val F (wn rfl) rfl rfl (.bool true) (ex_bin .geq _ _ _ _ rfl .i64 _ _ (F.e rfl) rfl _ (b_geq (decide_eq_true (by omega)))) ?_; clear F a; intro a F
    refine list_val F (wn rfl) rfl rfl (.bool true) (ex_move _ rfl _ (F.e rfl)) ?_; clear F a; intro a F
    refine list_val F (F.wants 154 true rfl (by kernel_rfl) rfl true rfl) rfl rfl (.pointer (some ⟨g7, 0, none⟩)) (ex_fa _ _ _ rfl _ (F.e rfl) 0 rx_fa_72_0_0 ⟨g7, 0, none⟩ rfl) ?_; clear F a; intro a F
    refine list_val F (F.wants 154 true rfl (by kernel_rfl) rfl true rfl) rfl rfl (.int .i64 act) (ex_load _ _ rfl _ (F.e rfl) _ (lv1 rx_one_3 (M.cell (i := 4) rfl (j := 0) rfl))) ?_; clear F a; intro a F
    refine list_val F (F.wants 154 true rfl (by kernel_rfl) rfl true rfl) rfl rfl (.bool true) (ex_bin .leq _ _ _ _ rfl .i64 _ _ (F.e rfl) rfl _ (b_leq (decide_eq_true (by omega)))) ?_; clear F a; intro a F
    refine list_val F (wn rfl) rfl rfl (.bool true) (ex_pick_t _ _ _ rfl (F.e rfl) _ (F.e rfl)) ?_; clear F a; intro a F
    refine wpList_nil ?_
    refine then_n ?_
    refine wp_cond_true (F.e rfl) ?_
    refine wp_seq ?_
    refine wp_seq ?_
    refine wp_region_lit ?_
    refine list_val F (wn rfl) rfl rfl (.agg #[.slice gA q.keys.length gc, .int .u64 q.next]) (ex_load _ _ rfl _ (F.e rfl) _ (lvr (cs := [.slice gA q.keys.length gc, .int .u64 q.next]) rx_row_69_2 (M.at (i := 1) rfl))) ?_; clear F a; intro a F
    refine list_val F (wn rfl) rfl rfl (.agg #[.slice wA q.keys.length wc, .int .u64 q.next]) (ex_load _ _ rfl _ (F.e rfl) _ (lvr (cs := [.slice wA q.keys.length wc, .int .u64 q.next]) rx_row_69_2 (M.at (i := 3) rfl))) ?_; clear F a; intro a F
    refine list_do (wn rfl) (fun K hK => ?_)
    refine ow_call rfl rfl F 21 #[.agg #[.slice gA q.keys.length gc, .int .u64 q.next], .agg #[.slice wA q.keys.length wc, .int .u64 q.next]] (ex_call 21 _ _ rfl rfl rx_ent_21 _ (map2 (F.e rfl) (F.e rfl))) (eq_q q _ _ _ _ _ (own_ro O_g rfl _) (own_ro O_w rfl _)) (fun e u hR => ?_)
    obtain ⟨he, hb⟩ := hR
    refine ⟨.bool true, he, ?_⟩; clear he F a; intro a F
    refine hK _ _ ?_
    clear hK K
    replace S_ := S_.below hb
    replace O_w := O_w.below hb
    replace O_g := O_g.below hb
    replace O_t := O_t.below hb
    replace Z_ := Nat.le_trans Z_ hb.size
    replace M := M.below hb; clear hb; try clear v
    refine list_val F (wn rfl) rfl rfl (.bool false) (ex_not _ _ rfl _ (F.e rfl) _ rfl) ?_; clear F a; intro a F
    refine list_val F (wn rfl) rfl rfl (.bool false) (ex_move _ rfl _ (F.e rfl)) ?_; clear F a; intro a F
    refine list_val F (F.wants 163 false rfl (by kernel_rfl) rfl true rfl) rfl rfl (.int .i64 n) (ex_move _ rfl _ (F.e rfl)) ?_; clear F a; intro a F
    refine list_do (F.wants 163 false rfl (by kernel_rfl) rfl true rfl) (fun K hK => ?_)
    refine ow_call rfl rfl F 22 #[.int .i64 n] (ex_call 22 _ _ rfl rfl rx_ent_22 _ (map1 (F.e rfl))) (num_any _ _) (fun e v hR => ?_)
    obtain ⟨he, hw⟩ := hR
    replace hw := hw.symm
    refine ⟨.int .i64 n, he, ?_⟩; clear he F a; intro a F
    replace hw := hw.symm; subst hw
    refine hK _ _ ?_
    clear hK K
    refine list_val F (F.wants 163 false rfl (by kernel_rfl) rfl true rfl) rfl rfl (.int .i64 n) (ex_move _ rfl _ (F.e rfl)) ?_; clear F a; intro a F
    refine list_val F (F.wants 163 false rfl (by kernel_rfl) rfl true rfl) rfl rfl (.bool false) (ex_bin .neq _ _ _ _ rfl .i64 _ _ (F.e rfl) (F.e rfl) _ (b_neq (by simp))) ?_; clear F a; intro a F
    refine list_val F (wn rfl) rfl rfl (.bool false) (ex_pick_f _ _ _ rfl (F.e rfl) _ (F.e rfl)) ?_; clear F a; intro a F
    refine wpList_nil ?_
    refine then_n ?_
    refine wp_cond_false (F.e rfl) ?_
    refine wp_skip ?_
    refine then_n ?_
    refine wp_seq ?_
    have hlwg := hlg; have hlgt := hlt
    by_cases hn0 : n = 0
    ·
     replace S_ := S_.setr O_w (Nat.le_trans S_.lim.1 hlw) (fun k hk => ⟨S_.fresh k (by have h_ := (Ow_lt O_w hk).1; omega), hwg k hk⟩) hlw (by omega) (Nat.le_trans hlt Z_)
     clear O_w
     refine wp_region_lit ?_
     refine list_val F (wn rfl) rfl rfl (.pointer (some ⟨g15, 0, none⟩)) (ex_move _ rfl _ (F.e rfl)) ?_; clear F a; intro a F
     refine list_val F (wn rfl) rfl rfl (.agg #[.slice gA q.keys.length gc, .int .u64 q.next]) (ex_load _ _ rfl _ (F.e rfl) _ (lvr (cs := [.slice gA q.keys.length gc, .int .u64 q.next]) rx_row_69_2 (M.at (i := 1) rfl))) ?_; clear F a; intro a F
     refine list_do (wn rfl) (fun K hK => ?_)
     refine ow_call rfl rfl F 23 #[.pointer (some ⟨g15, 0, none⟩), .agg #[.slice gA q.keys.length gc, .int .u64 q.next]] (ex_call 23 _ _ rfl rfl rx_ent_23 _ (map2 (F.e rfl) (F.e rfl))) (bookRing_any own w.heap.size bg g15 g17 tn wA wc q.keys _ S_ bg (by omega) gA gc q.keys q.next O_g bt hgt (by omega) Z_ (by omega) (by omega)) (fun e v hR => ?_)
     obtain ⟨he, own2, S2, ho2, ho⟩ := hR
     refine ⟨.tuple #[], he, ?_⟩; clear he F a; intro a F
     refine hK _ _ ?_
     clear hK K
     replace M := mm_onlyT M ho (Nat.le_refl _) M.bel.size (fun k hk => Ow_cells O_g hk) ⟨⟨by show (69 : Nat) ∉ [50, 55, 3]; decide, by show (69 : Nat) ≠ 107; decide⟩, ⟨by show (69 : Nat) ∉ [50, 55, 3]; decide, by show (69 : Nat) ≠ 107; decide⟩, ⟨by show (69 : Nat) ∉ [50, 55, 3]; decide, by show (69 : Nat) ≠ 107; decide⟩, ⟨by show (69 : Nat) ∉ [50, 55, 3]; decide, by show (69 : Nat) ≠ 107; decide⟩, ⟨by show (72 : Nat) ∉ [50, 55, 3]; decide, by show (72 : Nat) ≠ 107; decide⟩, ⟨by show (69 : Nat) ∉ [50, 55, 3]; decide, by show (69 : Nat) ≠ 107; decide⟩, trivial⟩
     replace O_t := Ow_only O_t ho (by decide) (fun k hk e => by have h1 := (Ow_lt O_t hk).1; have h2 := hgt k e; omega)
     replace Z_ := Nat.le_trans Z_ ho.size
     clear S_ O_g ho ho2; have S_ := S2; clear S2; try clear u
     refine wpList_nil ?_
     refine then_n ?_
     refine wp_seq ?_
     refine wp_seq ?_
     refine wp_region_lit ?_
     refine list_val F (wn rfl) rfl rfl (.agg #[.slice tA q.keys.length tc, .int .u64 q.next]) (ex_load _ _ rfl _ (F.e rfl) _ (lvr (cs := [.slice tA q.keys.length tc, .int .u64 q.next]) rx_row_69_2 (M.at (i := 0) rfl))) ?_; clear F a; intro a F
     refine list_val F (wn rfl) rfl rfl (.agg #[.slice wA q.keys.length wc, .int .u64 q.next]) (ex_load _ _ rfl _ (F.e rfl) _ (lvr (cs := [.slice wA q.keys.length wc, .int .u64 q.next]) rx_row_69_2 (M.at (i := 3) rfl))) ?_; clear F a; intro a F
     refine list_do (wn rfl) (fun K hK => ?_)
     refine ow_call rfl rfl F 21 #[.agg #[.slice tA q.keys.length tc, .int .u64 q.next], .agg #[.slice wA q.keys.length wc, .int .u64 q.next]] (ex_call 21 _ _ rfl rfl rx_ent_21 _ (map2 (F.e rfl) (F.e rfl))) (eq_q q _ _ _ _ _ (own_ro O_t rfl _) (own_ro (show OwnKeys _ _ (.slice wA q.keys.length wc) _ from S_.ring.1) rfl _)) (fun e u hR => ?_)
     obtain ⟨he, hb⟩ := hR
     refine ⟨.bool true, he, ?_⟩; clear he F a; intro a F
     refine hK _ _ ?_
     clear hK K
     replace S_ := S_.below hb
     replace O_t := O_t.below hb
     replace Z_ := Nat.le_trans Z_ hb.size
     replace M := M.below hb; clear hb; try clear v
     refine list_val F (wn rfl) rfl rfl (.bool false) (ex_not _ _ rfl _ (F.e rfl) _ rfl) ?_; clear F a; intro a F
     refine wpList_nil ?_
     refine then_n ?_
     refine wp_cond_false (F.e rfl) ?_
     refine wp_skip ?_
     refine then_n ?_
     refine wp_seq ?_
     refine wp_region_lit ?_
     refine list_val F (wn rfl) rfl rfl (.pointer (some ⟨g15, 0, none⟩)) (ex_move _ rfl _ (F.e rfl)) ?_; clear F a; intro a F
     refine list_val F (wn rfl) rfl rfl (.agg #[.slice tA q.keys.length tc, .int .u64 q.next]) (ex_load _ _ rfl _ (F.e rfl) _ (lvr (cs := [.slice tA q.keys.length tc, .int .u64 q.next]) rx_row_69_2 (M.at (i := 0) rfl))) ?_; clear F a; intro a F
     refine list_do (wn rfl) (fun K hK => ?_)
     refine ow_call rfl rfl F 23 #[.pointer (some ⟨g15, 0, none⟩), .agg #[.slice tA q.keys.length tc, .int .u64 q.next]] (ex_call 23 _ _ rfl rfl rx_ent_23 _ (map2 (F.e rfl) (F.e rfl))) (bookRing_any own2 w.heap.size bt g15 g17 (tn + 1) wA wc q.keys _ S_ bt (by omega) tA tc q.keys q.next O_t u.heap.size (fun k hk => (Ow_lt O_t hk).2) (by omega) (Nat.le_refl _) (by omega) (by omega)) (fun e v hR => ?_)
     obtain ⟨he, own3, S2, ho2, ho⟩ := hR
     refine ⟨.tuple #[], he, ?_⟩; clear he F a; intro a F
     refine hK _ _ ?_
     clear hK K
     replace M := mm_onlyT M ho (Nat.le_refl _) M.bel.size (fun k hk => Ow_cells O_t hk) ⟨⟨by show (69 : Nat) ∉ [50, 55, 3]; decide, by show (69 : Nat) ≠ 107; decide⟩, ⟨by show (69 : Nat) ∉ [50, 55, 3]; decide, by show (69 : Nat) ≠ 107; decide⟩, ⟨by show (69 : Nat) ∉ [50, 55, 3]; decide, by show (69 : Nat) ≠ 107; decide⟩, ⟨by show (69 : Nat) ∉ [50, 55, 3]; decide, by show (69 : Nat) ≠ 107; decide⟩, ⟨by show (72 : Nat) ∉ [50, 55, 3]; decide, by show (72 : Nat) ≠ 107; decide⟩, ⟨by show (69 : Nat) ∉ [50, 55, 3]; decide, by show (69 : Nat) ≠ 107; decide⟩, trivial⟩
     obtain ⟨lf, hlf⟩ : ∃ l, l = u.heap.size := ⟨_, rfl⟩
     rw [← hlf] at S2
     have hlf2 : bt ≤ lf := by rw [hlf]; exact Z_
     clear hlf
     clear S_ O_t ho ho2; have S_ := S2; clear S2 Z_; try clear u
     refine wpList_nil ?_
     refine then_n ?_
     refine wp_seq ?_
     refine wp_region_lit ?_
     refine list_val F (wn rfl) rfl rfl (.int .i64 n) (ex_move _ rfl _ (F.e rfl)) ?_; clear F a; intro a F
     refine list_val F (wn rfl) rfl rfl (.bool false) (ex_bin .neq _ _ _ _ rfl .i64 _ _ (F.e rfl) rfl _ (b_neq (by rw [hn0]; rfl))) ?_; clear F a; intro a F
     refine wpList_nil ?_
     refine then_n ?_
     refine wp_cond_false (F.e rfl) ?_
     refine wp_skip ?_
     refine then_n ?_
     refine wp_seq ?_
     refine wp_region_lit ?_
     refine list_val F (wn rfl) rfl rfl (.agg #[.slice wA q.keys.length wc, .int .u64 q.next]) (ex_load _ _ rfl _ (F.e rfl) _ (lvr (cs := [.slice wA q.keys.length wc, .int .u64 q.next]) rx_row_69_2 (M.at (i := 3) rfl))) ?_; clear F a; intro a F
     refine list_do (wn rfl) (fun K hK => ?_)
     refine ow_put F M rfl 69 _ _ rfl 5 _ #[.slice RA rks.length rc, .int .u64 rnx] _ rfl (F.e rfl) #[.slice wA q.keys.length wc, .int .u64 q.next] (F.e rfl) (sz_row (m := 2) rx_row_69_2) rfl (by simp [Value.oneCell']) ?_
     clear F a; have Mo := M; clear M; intro a u F M hgr
     refine hK _ _ ?_
     clear hK K
     replace S_ := S_.grown (Mo.blk 5 _ rfl) (by show (69 : Nat) ≠ 50 ∧ (69 : Nat) ≠ 55 ∧ (69 : Nat) ≠ 3 ∧ (69 : Nat) ≠ 66 ∧ (69 : Nat) ≠ 107; decide) hgr
     clear Mo hgr; try clear v
     replace M : Mm w u [⟨g13, #[.slice tA q.keys.length tc, .int .u64 q.next], 69⟩, ⟨g11, #[.slice gA q.keys.length gc, .int .u64 q.next], 69⟩, ⟨g10, #[.slice XA rks.length xc, .int .u64 rnx], 69⟩, ⟨g8, #[.slice wA q.keys.length wc, .int .u64 q.next], 69⟩, ⟨g7, (stepCs act s tm kid (.slice B ks.length b) next).toArray, 72⟩, ⟨g5, #[.slice wA q.keys.length wc, .int .u64 q.next], 69⟩] := M
     refine wpList_nil ?_
     refine then_n ?_
     refine wp_seq ?_
     refine wp_region_lit ?_
     refine list_val F (wn rfl) rfl rfl (.agg #[.slice wA q.keys.length wc, .int .u64 q.next]) (ex_load _ _ rfl _ (F.e rfl) _ (lvr (cs := [.slice wA q.keys.length wc, .int .u64 q.next]) rx_row_69_2 (M.at (i := 5) rfl))) ?_; clear F a; intro a F
     refine list_val F (wn rfl) rfl rfl (.pointer (some ⟨g7, 34, none⟩)) (ex_fa _ _ _ rfl _ (F.e rfl) 34 rx_fa_72_3_34 ⟨g7, 34, none⟩ rfl) ?_; clear F a; intro a F
     refine list_val F (wn rfl) rfl rfl (.int .u64 kid) (ex_load _ _ rfl _ (F.e rfl) _ (lv1 rx_one_67 (M.cell (i := 4) rfl (j := 34) step_a34))) ?_; clear F a; intro a F
     refine list_do (wn rfl) (fun K hK => ?_)
     refine ow_call rfl rfl F 17 #[.agg #[.slice wA q.keys.length wc, .int .u64 q.next], .int .u64 kid] (ex_call 17 _ _ rfl rfl rx_ent_17 _ (map2 (F.e rfl) (F.e rfl))) (asks_any q.keys wA wc q.next kid _ S_.rd S_.rc (by omega)) (fun e v hR => ?_)
     obtain ⟨he, hb⟩ := hR
     refine ⟨.bool true, he, ?_⟩; clear he F a; intro a F
     refine hK _ _ ?_
     clear hK K
     replace S_ := S_.below hb
     replace M := M.below hb; clear hb; try clear u
     refine list_val F (wn rfl) rfl rfl (.bool false) (ex_not _ _ rfl _ (F.e rfl) _ rfl) ?_; clear F a; intro a F
     refine list_val F (wn rfl) rfl rfl (.bool false) (ex_move _ rfl _ (F.e rfl)) ?_; clear F a; intro a F
     refine list_val F (F.wants 188 false rfl (by kernel_rfl) rfl true rfl) rfl rfl (.pointer (some ⟨g17, 0, none⟩)) (ex_move _ rfl _ (F.e rfl)) ?_; clear F a; intro a F
     refine list_val F (F.wants 188 false rfl (by kernel_rfl) rfl true rfl) rfl rfl (.agg #[.slice wA q.keys.length wc, .int .u64 q.next]) (ex_load _ _ rfl _ (F.e rfl) _ (lvr (cs := [.slice wA q.keys.length wc, .int .u64 q.next]) rx_row_69_2 (M.at (i := 5) rfl))) ?_; clear F a; intro a F
     refine list_do (F.wants 188 false rfl (by kernel_rfl) rfl true rfl) (fun K hK => ?_)
     refine ow_call rfl rfl F 24 #[.pointer (some ⟨g17, 0, none⟩), .agg #[.slice wA q.keys.length wc, .int .u64 q.next]] (ex_call 24 _ _ rfl rfl rx_ent_24 _ (map2 (F.e rfl) (F.e rfl))) (placed_any own3 w.heap.size lf g15 g17 (tn + 1 + 1) wA wc q.keys _ S_ q.next (by omega)) (fun e u hR => ?_)
     obtain ⟨he, S2, x_, ho, hx_⟩ := hR
     refine ⟨.bool true, he, ?_⟩; clear he F a; intro a F
     refine hK _ _ ?_
     clear hK K
     replace M := mm_onlyT M ho (Nat.le_refl _) M.bel.size (fun k hk => (hx_ k hk).2) ⟨⟨by show (69 : Nat) ∉ [66]; decide, by show (69 : Nat) ≠ 107; decide⟩, ⟨by show (69 : Nat) ∉ [66]; decide, by show (69 : Nat) ≠ 107; decide⟩, ⟨by show (69 : Nat) ∉ [66]; decide, by show (69 : Nat) ≠ 107; decide⟩, ⟨by show (69 : Nat) ∉ [66]; decide, by show (69 : Nat) ≠ 107; decide⟩, ⟨by show (72 : Nat) ∉ [66]; decide, by show (72 : Nat) ≠ 107; decide⟩, ⟨by show (69 : Nat) ∉ [66]; decide, by show (69 : Nat) ≠ 107; decide⟩, trivial⟩
     obtain ⟨lz, hlz⟩ : ∃ l, l = u.heap.size := ⟨_, rfl⟩
     rw [← hlz] at S2
     clear S_ ho hx_ hlz; have S_ := S2; clear S2; try clear v
     refine list_val F (F.wants 188 false rfl (by kernel_rfl) rfl true rfl) rfl rfl (.bool false) (ex_not _ _ rfl _ (F.e rfl) _ rfl) ?_; clear F a; intro a F
     refine list_val F (wn rfl) rfl rfl (.bool false) (ex_pick_f _ _ _ rfl (F.e rfl) _ (F.e rfl)) ?_; clear F a; intro a F
     refine wpList_nil ?_
     refine then_n ?_
     refine wp_cond_false (F.e rfl) ?_
     refine wp_skip ?_
     refine in_n ?_
     refine then_n ?_
     refine wp_region_lit ?_
     refine list_val F (wn rfl) rfl rfl (.int .i64 i) (ex_move _ rfl _ (F.e rfl)) ?_; clear F a; intro a F
     refine list_val F (wn rfl) rfl rfl (.int .i64 (i + 1)) (ex_bin .add _ _ _ _ rfl .i64 _ _ (F.e rfl) rfl _ (b_add (w_i64 (by omega) (by omega)))) ?_; clear F a; intro a F
     refine list_val F (wn rfl) rfl rfl (.int .i64 (i + 1)) (ex_assign _ rfl _ (F.e rfl)) ?_; clear F a; intro a F
     refine wpList_nil ?_
     replace F : Fr 199 a [(0, .slice (some adt) l.length c), (2, .bool false), (3, .pointer (some ⟨g15, 0, none⟩)), (4, .pointer (some ⟨g17, 0, none⟩)), (5, .pointer (some ⟨g5, 0, none⟩)), (6, .int .i64 (i + 1)), (7, .pointer (some ⟨g7, 0, none⟩)), (8, .pointer (some ⟨g8, 0, none⟩)), (9, .int .i64 n), (10, .pointer (some ⟨g10, 0, none⟩)), (11, .pointer (some ⟨g11, 0, none⟩)), (12, .int .i64 n), (13, .pointer (some ⟨g13, 0, none⟩)), (26, .bool true), (38, .int .i64 act), (39, .bool false), (50, .bool true), (147, .bool false), (158, .bool true), (168, .bool false), (175, .bool false), (180, .bool false), (193, .bool false)] := F.keep ⟨rfl, rfl, rfl, rfl, rfl, rfl, rfl, rfl, rfl, rfl, rfl, rfl, rfl, rfl, rfl, rfl, rfl, rfl, rfl, rfl, rfl, rfl, rfl, trivial⟩
     refine then_n ?_
     exact ⟨l.length - (i + 1), by omega, (i + 1), own3, lz, (tn + 1 + 1), wA, wc, q.keys, q.next, F.keep ⟨rfl, rfl, rfl, rfl, rfl, rfl, trivial⟩, (by refine M.pick' [5] _ ?_ (by decide); exact ⟨rfl, trivial⟩), S_, (by omega), (by omega), (by omega), (by omega), (by omega), (by omega)⟩
    refine wp_region_lit ?_
    refine list_val F (wn rfl) rfl rfl (.pointer (some ⟨g15, 0, none⟩)) (ex_move _ rfl _ (F.e rfl)) ?_; clear F a; intro a F
    refine list_val F (wn rfl) rfl rfl (.agg #[.slice gA q.keys.length gc, .int .u64 q.next]) (ex_load _ _ rfl _ (F.e rfl) _ (lvr (cs := [.slice gA q.keys.length gc, .int .u64 q.next]) rx_row_69_2 (M.at (i := 1) rfl))) ?_; clear F a; intro a F
    refine list_do (wn rfl) (fun K hK => ?_)
    refine ow_call rfl rfl F 23 #[.pointer (some ⟨g15, 0, none⟩), .agg #[.slice gA q.keys.length gc, .int .u64 q.next]] (ex_call 23 _ _ rfl rfl rx_ent_23 _ (map2 (F.e rfl) (F.e rfl))) (bookRing_any own w.heap.size lim g15 g17 tn RA rc rks _ S_ bg (by omega) gA gc q.keys q.next O_g bt hgt (by omega) Z_ (by omega) (by omega)) (fun e v hR => ?_)
    obtain ⟨he, own2, S2, ho2, ho⟩ := hR
    refine ⟨.tuple #[], he, ?_⟩; clear he F a; intro a F
    refine hK _ _ ?_
    clear hK K
    replace M := mm_onlyT M ho (Nat.le_refl _) M.bel.size (fun k hk => Ow_cells O_g hk) ⟨⟨by show (69 : Nat) ∉ [50, 55, 3]; decide, by show (69 : Nat) ≠ 107; decide⟩, ⟨by show (69 : Nat) ∉ [50, 55, 3]; decide, by show (69 : Nat) ≠ 107; decide⟩, ⟨by show (69 : Nat) ∉ [50, 55, 3]; decide, by show (69 : Nat) ≠ 107; decide⟩, ⟨by show (69 : Nat) ∉ [50, 55, 3]; decide, by show (69 : Nat) ≠ 107; decide⟩, ⟨by show (72 : Nat) ∉ [50, 55, 3]; decide, by show (72 : Nat) ≠ 107; decide⟩, ⟨by show (69 : Nat) ∉ [50, 55, 3]; decide, by show (69 : Nat) ≠ 107; decide⟩, trivial⟩
    replace O_w := Ow_only O_w ho (by decide) (fun k hk e => by have h1 := hwg k hk; have h2 := (Ow_lt O_g e).1; omega)
    replace O_t := Ow_only O_t ho (by decide) (fun k hk e => by have h1 := (Ow_lt O_t hk).1; have h2 := hgt k e; omega)
    replace Z_ := Nat.le_trans Z_ ho.size
    clear S_ O_g ho ho2; have S_ := S2; clear S2; try clear u
    refine wpList_nil ?_
    refine then_n ?_
    refine wp_seq ?_
    refine wp_seq ?_
    refine wp_region_lit ?_
    refine list_val F (wn rfl) rfl rfl (.agg #[.slice tA q.keys.length tc, .int .u64 q.next]) (ex_load _ _ rfl _ (F.e rfl) _ (lvr (cs := [.slice tA q.keys.length tc, .int .u64 q.next]) rx_row_69_2 (M.at (i := 0) rfl))) ?_; clear F a; intro a F
    refine list_val F (wn rfl) rfl rfl (.agg #[.slice wA q.keys.length wc, .int .u64 q.next]) (ex_load _ _ rfl _ (F.e rfl) _ (lvr (cs := [.slice wA q.keys.length wc, .int .u64 q.next]) rx_row_69_2 (M.at (i := 3) rfl))) ?_; clear F a; intro a F
    refine list_do (wn rfl) (fun K hK => ?_)
    refine ow_call rfl rfl F 21 #[.agg #[.slice tA q.keys.length tc, .int .u64 q.next], .agg #[.slice wA q.keys.length wc, .int .u64 q.next]] (ex_call 21 _ _ rfl rfl rx_ent_21 _ (map2 (F.e rfl) (F.e rfl))) (eq_q q _ _ _ _ _ (own_ro O_t rfl _) (own_ro O_w rfl _)) (fun e u hR => ?_)
    obtain ⟨he, hb⟩ := hR
    refine ⟨.bool true, he, ?_⟩; clear he F a; intro a F
    refine hK _ _ ?_
    clear hK K
    replace S_ := S_.below hb
    replace O_w := O_w.below hb
    replace O_t := O_t.below hb
    replace Z_ := Nat.le_trans Z_ hb.size
    replace M := M.below hb; clear hb; try clear v
    refine list_val F (wn rfl) rfl rfl (.bool false) (ex_not _ _ rfl _ (F.e rfl) _ rfl) ?_; clear F a; intro a F
    refine wpList_nil ?_
    refine then_n ?_
    refine wp_cond_false (F.e rfl) ?_
    refine wp_skip ?_
    refine then_n ?_
    refine wp_seq ?_
    refine wp_region_lit ?_
    refine list_val F (wn rfl) rfl rfl (.pointer (some ⟨g15, 0, none⟩)) (ex_move _ rfl _ (F.e rfl)) ?_; clear F a; intro a F
    refine list_val F (wn rfl) rfl rfl (.agg #[.slice tA q.keys.length tc, .int .u64 q.next]) (ex_load _ _ rfl _ (F.e rfl) _ (lvr (cs := [.slice tA q.keys.length tc, .int .u64 q.next]) rx_row_69_2 (M.at (i := 0) rfl))) ?_; clear F a; intro a F
    refine list_do (wn rfl) (fun K hK => ?_)
    refine ow_call rfl rfl F 23 #[.pointer (some ⟨g15, 0, none⟩), .agg #[.slice tA q.keys.length tc, .int .u64 q.next]] (ex_call 23 _ _ rfl rfl rx_ent_23 _ (map2 (F.e rfl) (F.e rfl))) (bookRing_any own2 w.heap.size bt g15 g17 (tn + 1) RA rc rks _ S_ bt (by omega) tA tc q.keys q.next O_t u.heap.size (fun k hk => (Ow_lt O_t hk).2) (by omega) (Nat.le_refl _) (by omega) (by omega)) (fun e v hR => ?_)
    obtain ⟨he, own3, S2, ho2, ho⟩ := hR
    refine ⟨.tuple #[], he, ?_⟩; clear he F a; intro a F
    refine hK _ _ ?_
    clear hK K
    replace M := mm_onlyT M ho (Nat.le_refl _) M.bel.size (fun k hk => Ow_cells O_t hk) ⟨⟨by show (69 : Nat) ∉ [50, 55, 3]; decide, by show (69 : Nat) ≠ 107; decide⟩, ⟨by show (69 : Nat) ∉ [50, 55, 3]; decide, by show (69 : Nat) ≠ 107; decide⟩, ⟨by show (69 : Nat) ∉ [50, 55, 3]; decide, by show (69 : Nat) ≠ 107; decide⟩, ⟨by show (69 : Nat) ∉ [50, 55, 3]; decide, by show (69 : Nat) ≠ 107; decide⟩, ⟨by show (72 : Nat) ∉ [50, 55, 3]; decide, by show (72 : Nat) ≠ 107; decide⟩, ⟨by show (69 : Nat) ∉ [50, 55, 3]; decide, by show (69 : Nat) ≠ 107; decide⟩, trivial⟩
    replace O_w := Ow_only O_w ho (by decide) (fun k hk e => by have h1 := hwg k hk; have h2 := (Ow_lt O_t e).1; omega)
    obtain ⟨lf, hlf⟩ : ∃ l, l = u.heap.size := ⟨_, rfl⟩
    rw [← hlf] at S2
    have hlf2 : bt ≤ lf := by rw [hlf]; exact Z_
    clear hlf
    clear S_ O_t ho ho2; have S_ := S2; clear S2 Z_; try clear u
    refine wpList_nil ?_
    refine then_n ?_
    refine wp_seq ?_
    refine wp_region_lit ?_
    refine list_val F (wn rfl) rfl rfl (.int .i64 n) (ex_move _ rfl _ (F.e rfl)) ?_; clear F a; intro a F
    refine list_val F (wn rfl) rfl rfl (.bool true) (ex_bin .neq _ _ _ _ rfl .i64 _ _ (F.e rfl) rfl _ (b_neq (bne_iff_ne.2 hn0))) ?_; clear F a; intro a F
    refine wpList_nil ?_
    refine then_n ?_
    refine wp_cond_true (F.e rfl) ?_
    refine wp_region_lit ?_
    refine list_val F (wn rfl) rfl rfl (.agg #[.slice RA rks.length rc, .int .u64 rnx]) (ex_load _ _ rfl _ (F.e rfl) _ (lvr (cs := [.slice RA rks.length rc, .int .u64 rnx]) rx_row_69_2 (M.at (i := 5) rfl))) ?_; clear F a; intro a F
    refine list_do (wn rfl) (fun K hK => ?_)
    refine ow_put F M rfl 69 _ _ rfl 3 _ #[.slice wA q.keys.length wc, .int .u64 q.next] _ rfl (F.e rfl) #[.slice RA rks.length rc, .int .u64 rnx] (F.e rfl) (sz_row (m := 2) rx_row_69_2) rfl (by simp [Value.oneCell']) ?_
    clear F a; have Mo := M; clear M; intro a u F M hgr
    refine hK _ _ ?_
    clear hK K
    replace S_ := S_.grown (Mo.blk 3 _ rfl) (by show (69 : Nat) ≠ 50 ∧ (69 : Nat) ≠ 55 ∧ (69 : Nat) ≠ 3 ∧ (69 : Nat) ≠ 66 ∧ (69 : Nat) ≠ 107; decide) hgr
    replace O_w := Ow.grown (enc := Key.cs) (m := 34) (hl := Key.cs_len) (h1 := Key.cs_one) O_w (Mo.blk 3 _ rfl) (.inl (by show (107 : Nat) ≠ 69; decide)) hgr
    clear Mo hgr; try clear v
    replace M : Mm w u [⟨g13, #[.slice tA q.keys.length tc, .int .u64 q.next], 69⟩, ⟨g11, #[.slice gA q.keys.length gc, .int .u64 q.next], 69⟩, ⟨g10, #[.slice XA rks.length xc, .int .u64 rnx], 69⟩, ⟨g8, #[.slice RA rks.length rc, .int .u64 rnx], 69⟩, ⟨g7, (stepCs act s tm kid (.slice B ks.length b) next).toArray, 72⟩, ⟨g5, #[.slice RA rks.length rc, .int .u64 rnx], 69⟩] := M
    refine wpList_nil ?_
    refine then_n ?_
    refine wp_seq ?_
    refine wp_region_lit ?_
    refine list_val F (wn rfl) rfl rfl (.agg #[.slice RA rks.length rc, .int .u64 rnx]) (ex_load _ _ rfl _ (F.e rfl) _ (lvr (cs := [.slice RA rks.length rc, .int .u64 rnx]) rx_row_69_2 (M.at (i := 3) rfl))) ?_; clear F a; intro a F
    refine list_do (wn rfl) (fun K hK => ?_)
    refine ow_put F M rfl 69 _ _ rfl 5 _ #[.slice RA rks.length rc, .int .u64 rnx] _ rfl (F.e rfl) #[.slice RA rks.length rc, .int .u64 rnx] (F.e rfl) (sz_row (m := 2) rx_row_69_2) rfl (by simp [Value.oneCell']) ?_
    clear F a; have Mo := M; clear M; intro a v F M hgr
    refine hK _ _ ?_
    clear hK K
    replace S_ := S_.grown (Mo.blk 5 _ rfl) (by show (69 : Nat) ≠ 50 ∧ (69 : Nat) ≠ 55 ∧ (69 : Nat) ≠ 3 ∧ (69 : Nat) ≠ 66 ∧ (69 : Nat) ≠ 107; decide) hgr
    replace O_w := Ow.grown (enc := Key.cs) (m := 34) (hl := Key.cs_len) (h1 := Key.cs_one) O_w (Mo.blk 5 _ rfl) (.inl (by show (107 : Nat) ≠ 69; decide)) hgr
    clear Mo hgr; try clear u
    replace M : Mm w v [⟨g13, #[.slice tA q.keys.length tc, .int .u64 q.next], 69⟩, ⟨g11, #[.slice gA q.keys.length gc, .int .u64 q.next], 69⟩, ⟨g10, #[.slice XA rks.length xc, .int .u64 rnx], 69⟩, ⟨g8, #[.slice RA rks.length rc, .int .u64 rnx], 69⟩, ⟨g7, (stepCs act s tm kid (.slice B ks.length b) next).toArray, 72⟩, ⟨g5, #[.slice RA rks.length rc, .int .u64 rnx], 69⟩] := M
    refine wpList_nil ?_
    refine then_n ?_
    refine wp_seq ?_
    clear O_w
    refine wp_region_lit ?_
    refine list_val F (wn rfl) rfl rfl (.agg #[.slice RA rks.length rc, .int .u64 rnx]) (ex_load _ _ rfl _ (F.e rfl) _ (lvr (cs := [.slice RA rks.length rc, .int .u64 rnx]) rx_row_69_2 (M.at (i := 5) rfl))) ?_; clear F a; intro a F
    refine list_val F (wn rfl) rfl rfl (.pointer (some ⟨g7, 34, none⟩)) (ex_fa _ _ _ rfl _ (F.e rfl) 34 rx_fa_72_3_34 ⟨g7, 34, none⟩ rfl) ?_; clear F a; intro a F
    refine list_val F (wn rfl) rfl rfl (.int .u64 kid) (ex_load _ _ rfl _ (F.e rfl) _ (lv1 rx_one_67 (M.cell (i := 4) rfl (j := 34) step_a34))) ?_; clear F a; intro a F
    refine list_do (wn rfl) (fun K hK => ?_)
    refine ow_call rfl rfl F 17 #[.agg #[.slice RA rks.length rc, .int .u64 rnx], .int .u64 kid] (ex_call 17 _ _ rfl rfl rx_ent_17 _ (map2 (F.e rfl) (F.e rfl))) (asks_any rks RA rc rnx kid _ S_.rd S_.rc (by omega)) (fun e u hR => ?_)
    obtain ⟨he, hb⟩ := hR
    refine ⟨.bool true, he, ?_⟩; clear he F a; intro a F
    refine hK _ _ ?_
    clear hK K
    replace S_ := S_.below hb
    replace M := M.below hb; clear hb; try clear v
    refine list_val F (wn rfl) rfl rfl (.bool false) (ex_not _ _ rfl _ (F.e rfl) _ rfl) ?_; clear F a; intro a F
    refine list_val F (wn rfl) rfl rfl (.bool false) (ex_move _ rfl _ (F.e rfl)) ?_; clear F a; intro a F
    refine list_val F (F.wants 188 false rfl (by kernel_rfl) rfl true rfl) rfl rfl (.pointer (some ⟨g17, 0, none⟩)) (ex_move _ rfl _ (F.e rfl)) ?_; clear F a; intro a F
    refine list_val F (F.wants 188 false rfl (by kernel_rfl) rfl true rfl) rfl rfl (.agg #[.slice RA rks.length rc, .int .u64 rnx]) (ex_load _ _ rfl _ (F.e rfl) _ (lvr (cs := [.slice RA rks.length rc, .int .u64 rnx]) rx_row_69_2 (M.at (i := 5) rfl))) ?_; clear F a; intro a F
    refine list_do (F.wants 188 false rfl (by kernel_rfl) rfl true rfl) (fun K hK => ?_)
    refine ow_call rfl rfl F 24 #[.pointer (some ⟨g17, 0, none⟩), .agg #[.slice RA rks.length rc, .int .u64 rnx]] (ex_call 24 _ _ rfl rfl rx_ent_24 _ (map2 (F.e rfl) (F.e rfl))) (placed_any own3 w.heap.size lf g15 g17 (tn + 1 + 1) RA rc rks _ S_ rnx (by omega)) (fun e v hR => ?_)
    obtain ⟨he, S2, x_, ho, hx_⟩ := hR
    refine ⟨.bool true, he, ?_⟩; clear he F a; intro a F
    refine hK _ _ ?_
    clear hK K
    replace M := mm_onlyT M ho (Nat.le_refl _) M.bel.size (fun k hk => (hx_ k hk).2) ⟨⟨by show (69 : Nat) ∉ [66]; decide, by show (69 : Nat) ≠ 107; decide⟩, ⟨by show (69 : Nat) ∉ [66]; decide, by show (69 : Nat) ≠ 107; decide⟩, ⟨by show (69 : Nat) ∉ [66]; decide, by show (69 : Nat) ≠ 107; decide⟩, ⟨by show (69 : Nat) ∉ [66]; decide, by show (69 : Nat) ≠ 107; decide⟩, ⟨by show (72 : Nat) ∉ [66]; decide, by show (72 : Nat) ≠ 107; decide⟩, ⟨by show (69 : Nat) ∉ [66]; decide, by show (69 : Nat) ≠ 107; decide⟩, trivial⟩
    obtain ⟨lz, hlz⟩ : ∃ l, l = v.heap.size := ⟨_, rfl⟩
    rw [← hlz] at S2
    clear S_ ho hx_ hlz; have S_ := S2; clear S2; try clear u
    refine list_val F (F.wants 188 false rfl (by kernel_rfl) rfl true rfl) rfl rfl (.bool false) (ex_not _ _ rfl _ (F.e rfl) _ rfl) ?_; clear F a; intro a F
    refine list_val F (wn rfl) rfl rfl (.bool false) (ex_pick_f _ _ _ rfl (F.e rfl) _ (F.e rfl)) ?_; clear F a; intro a F
    refine wpList_nil ?_
    refine then_n ?_
    refine wp_cond_false (F.e rfl) ?_
    refine wp_skip ?_
    refine in_n ?_
    refine then_n ?_
    refine wp_region_lit ?_
    refine list_val F (wn rfl) rfl rfl (.int .i64 i) (ex_move _ rfl _ (F.e rfl)) ?_; clear F a; intro a F
    refine list_val F (wn rfl) rfl rfl (.int .i64 (i + 1)) (ex_bin .add _ _ _ _ rfl .i64 _ _ (F.e rfl) rfl _ (b_add (w_i64 (by omega) (by omega)))) ?_; clear F a; intro a F
    refine list_val F (wn rfl) rfl rfl (.int .i64 (i + 1)) (ex_assign _ rfl _ (F.e rfl)) ?_; clear F a; intro a F
    refine wpList_nil ?_
    refine then_n ?_
    exact ⟨l.length - (i + 1), by omega, (i + 1), own3, lz, (tn + 1 + 1), RA, rc, rks, rnx, F.keep ⟨rfl, rfl, rfl, rfl, rfl, rfl, trivial⟩, (by refine M.pick' [5] _ ?_ (by decide); exact ⟨rfl, trivial⟩), S_, (by omega), (by omega), (by omega), (by omega), (by omega), (by omega)⟩
   refine wp_region_lit ?_
   refine list_val F (wn rfl) rfl rfl (.bool false) (ex_bin .eql _ _ _ _ rfl .i64 _ _ (F.e rfl) rfl _ (b_eql (beq_eq_false_iff_ne.2 ha2))) ?_; clear F a; intro a F
   refine list_val F (wn rfl) rfl rfl (.bool false) (ex_assign _ rfl _ (F.e rfl)) ?_; clear F a; intro a F
   refine wpList_nil ?_
   refine then_n ?_
   refine wp_cond_false (F.e rfl) ?_
   refine wp_seq ?_
   by_cases ha3 : act = 3
   ·
    obtain ⟨q, hq⟩ : ∃ q, pruneF ⟨rks, rnx⟩ tm = q := ⟨_, rfl⟩
    have hqb := pru_bd hq hrn0
    refine wp_region_lit ?_
    refine list_val F (wn rfl) rfl rfl (.bool true) (ex_bin .eql _ _ _ _ rfl .i64 _ _ (F.e rfl) rfl _ (b_eql (by rw [ha3]; rfl))) ?_; clear F a; intro a F
    refine list_val F (wn rfl) rfl rfl (.bool true) (ex_assign _ rfl _ (F.e rfl)) ?_; clear F a; intro a F
    refine wpList_nil ?_
    refine then_n ?_
    refine wp_cond_true (F.e rfl) ?_
    refine wp_seq ?_
    refine wp_region_lit ?_
    refine list_val F (wn rfl) rfl rfl (.agg #[.slice RA rks.length rc, .int .u64 rnx]) (ex_load _ _ rfl _ (F.e rfl) _ (lvr (cs := [.slice RA rks.length rc, .int .u64 rnx]) rx_row_69_2 (M.at (i := 5) rfl))) ?_; clear F a; intro a F
    refine list_val F (wn rfl) rfl rfl (.pointer (some ⟨g7, 33, none⟩)) (ex_fa _ _ _ rfl _ (F.e rfl) 33 rx_fa_72_2_33 ⟨g7, 33, none⟩ rfl) ?_; clear F a; intro a F
    refine list_val F (wn rfl) rfl rfl (.int .i64 tm) (ex_load _ _ rfl _ (F.e rfl) _ (lv1 rx_one_2 (M.cell (i := 4) rfl (j := 33) step_a33))) ?_; clear F a; intro a F
    refine list_do (wn rfl) (fun K hK => ?_)
    obtain ⟨bw, hbw_⟩ : ∃ b, b = v.heap.size := ⟨_, rfl⟩
    have hxw : ∀ k, (Value.slice XA (rks ++ marks).length xc).ownBlock = some k → k < bw := fun k hk => by rw [hbw_]; exact (Ow_lt O_x hk).2
    have hlw : lim ≤ bw := by rw [hbw_]; exact S_.lim.2
    refine ow_call rfl rfl F 13 #[.agg #[.slice RA rks.length rc, .int .u64 rnx], .int .i64 tm] (ex_call 13 _ _ rfl rfl rx_ent_13 _ (map2 (F.e rfl) (F.e rfl))) (rpru_o hq RA rc _ S_.rd S_.rc) (fun e u hR => ?_)
    obtain ⟨wA, wc, he, O_w, hb⟩ := hR
    replace O_w : Ow kKey 107 u bw (.slice wA q.keys.length wc) q.keys := by rw [hbw_]; exact O_w
    have Z_ : bw ≤ u.heap.size := by rw [hbw_]; exact hb.size
    clear hbw_
    refine ⟨.agg #[.slice wA q.keys.length wc, .int .u64 q.next], he, ?_⟩; clear he F a; intro a F
    refine hK _ _ ?_
    clear hK K
    replace S_ := S_.below hb
    replace O_x := O_x.below hb
    replace M := M.below hb; clear hb; try clear v
    refine list_do (wn rfl) (fun K hK => ?_)
    refine ow_put F M rfl 69 _ _ rfl 3 _ #[.slice RA rks.length rc, .int .u64 rnx] _ rfl (F.e rfl) #[.slice wA q.keys.length wc, .int .u64 q.next] (F.e rfl) (sz_row (m := 2) rx_row_69_2) rfl (by simp [Value.oneCell']) ?_
    clear F a; have Mo := M; clear M; intro a v F M hgr
    refine hK _ _ ?_
    clear hK K
    replace S_ := S_.grown (Mo.blk 3 _ rfl) (by show (69 : Nat) ≠ 50 ∧ (69 : Nat) ≠ 55 ∧ (69 : Nat) ≠ 3 ∧ (69 : Nat) ≠ 66 ∧ (69 : Nat) ≠ 107; decide) hgr
    replace O_x := Ow.grown (enc := Key.cs) (m := 34) (hl := Key.cs_len) (h1 := Key.cs_one) O_x (Mo.blk 3 _ rfl) (.inl (by show (107 : Nat) ≠ 69; decide)) hgr
    replace O_w := Ow.grown (enc := Key.cs) (m := 34) (hl := Key.cs_len) (h1 := Key.cs_one) O_w (Mo.blk 3 _ rfl) (.inl (by show (107 : Nat) ≠ 69; decide)) hgr
    replace Z_ := Nat.le_trans Z_ hgr.size
    clear Mo hgr; try clear u
    replace M : Mm w v [⟨g13, #[.slice none 0 0, .int .u64 0], 69⟩, ⟨g11, #[.slice RA rks.length rc, .int .u64 rnx], 69⟩, ⟨g10, #[.slice XA rks.length xc, .int .u64 rnx], 69⟩, ⟨g8, #[.slice wA q.keys.length wc, .int .u64 q.next], 69⟩, ⟨g7, (stepCs act s tm kid (.slice B ks.length b) next).toArray, 72⟩, ⟨g5, #[.slice RA rks.length rc, .int .u64 rnx], 69⟩] := M
    refine wpList_nil ?_
    refine then_n ?_
    refine wp_seq ?_
    refine wp_region_lit ?_
    refine list_val F (wn rfl) rfl rfl (.agg #[.slice XA rks.length xc, .int .u64 rnx]) (ex_load _ _ rfl _ (F.e rfl) _ (lvr (cs := [.slice XA rks.length xc, .int .u64 rnx]) rx_row_69_2 (M.at (i := 2) rfl))) ?_; clear F a; intro a F
    refine list_val F (wn rfl) rfl rfl (.pointer (some ⟨g7, 33, none⟩)) (ex_fa _ _ _ rfl _ (F.e rfl) 33 rx_fa_72_2_33 ⟨g7, 33, none⟩ rfl) ?_; clear F a; intro a F
    refine list_val F (wn rfl) rfl rfl (.int .i64 tm) (ex_load _ _ rfl _ (F.e rfl) _ (lv1 rx_one_2 (M.cell (i := 4) rfl (j := 33) step_a33))) ?_; clear F a; intro a F
    refine list_do (wn rfl) (fun K hK => ?_)
    obtain ⟨bg, hbg_⟩ : ∃ b, b = v.heap.size := ⟨_, rfl⟩
    have hwg : ∀ k, (Value.slice wA q.keys.length wc).ownBlock = some k → k < bg := fun k hk => by rw [hbg_]; exact (Ow_lt O_w hk).2
    have hlg : bw ≤ bg := by rw [hbg_]; exact Z_
    refine ow_call rfl rfl F 14 #[.agg #[.slice XA rks.length xc, .int .u64 rnx], .int .i64 tm] (ex_call 14 _ _ rfl rfl rx_ent_14 _ (map2 (F.e rfl) (F.e rfl))) (pru_o hq XA xc _ (lent_rd O_x) (lent_le O_x)) (fun e u hR => ?_)
    obtain ⟨gA, gc, he, O_g, hb⟩ := hR
    replace O_g : Ow kKey 107 u bg (.slice gA q.keys.length gc) q.keys := by rw [hbg_]; exact O_g
    replace Z_ : bg ≤ u.heap.size := by rw [hbg_]; exact hb.size
    clear hbg_
    refine ⟨.agg #[.slice gA q.keys.length gc, .int .u64 q.next], he, ?_⟩; clear he F a; intro a F
    refine hK _ _ ?_
    clear hK K
    replace S_ := S_.below hb
    replace O_x := O_x.below hb
    replace O_w := O_w.below hb
    replace M := M.below hb; clear hb; try clear v
    refine list_do (wn rfl) (fun K hK => ?_)
    refine ow_put F M rfl 69 _ _ rfl 1 _ #[.slice RA rks.length rc, .int .u64 rnx] _ rfl (F.e rfl) #[.slice gA q.keys.length gc, .int .u64 q.next] (F.e rfl) (sz_row (m := 2) rx_row_69_2) rfl (by simp [Value.oneCell']) ?_
    clear F a; have Mo := M; clear M; intro a v F M hgr
    refine hK _ _ ?_
    clear hK K
    replace S_ := S_.grown (Mo.blk 1 _ rfl) (by show (69 : Nat) ≠ 50 ∧ (69 : Nat) ≠ 55 ∧ (69 : Nat) ≠ 3 ∧ (69 : Nat) ≠ 66 ∧ (69 : Nat) ≠ 107; decide) hgr
    replace O_x := Ow.grown (enc := Key.cs) (m := 34) (hl := Key.cs_len) (h1 := Key.cs_one) O_x (Mo.blk 1 _ rfl) (.inl (by show (107 : Nat) ≠ 69; decide)) hgr
    replace O_w := Ow.grown (enc := Key.cs) (m := 34) (hl := Key.cs_len) (h1 := Key.cs_one) O_w (Mo.blk 1 _ rfl) (.inl (by show (107 : Nat) ≠ 69; decide)) hgr
    replace O_g := Ow.grown (enc := Key.cs) (m := 34) (hl := Key.cs_len) (h1 := Key.cs_one) O_g (Mo.blk 1 _ rfl) (.inl (by show (107 : Nat) ≠ 69; decide)) hgr
    replace Z_ := Nat.le_trans Z_ hgr.size
    clear Mo hgr; try clear u
    replace M : Mm w v [⟨g13, #[.slice none 0 0, .int .u64 0], 69⟩, ⟨g11, #[.slice gA q.keys.length gc, .int .u64 q.next], 69⟩, ⟨g10, #[.slice XA rks.length xc, .int .u64 rnx], 69⟩, ⟨g8, #[.slice wA q.keys.length wc, .int .u64 q.next], 69⟩, ⟨g7, (stepCs act s tm kid (.slice B ks.length b) next).toArray, 72⟩, ⟨g5, #[.slice RA rks.length rc, .int .u64 rnx], 69⟩] := M
    refine wpList_nil ?_
    refine then_n ?_
    refine wp_region_lit ?_
    refine list_val F (wn rfl) rfl rfl (.agg #[.slice XA rks.length xc, .int .u64 rnx]) (ex_load _ _ rfl _ (F.e rfl) _ (lvr (cs := [.slice XA rks.length xc, .int .u64 rnx]) rx_row_69_2 (M.at (i := 2) rfl))) ?_; clear F a; intro a F
    refine list_val F (wn rfl) rfl rfl (.pointer (some ⟨g7, 33, none⟩)) (ex_fa _ _ _ rfl _ (F.e rfl) 33 rx_fa_72_2_33 ⟨g7, 33, none⟩ rfl) ?_; clear F a; intro a F
    refine list_val F (wn rfl) rfl rfl (.int .i64 tm) (ex_load _ _ rfl _ (F.e rfl) _ (lv1 rx_one_2 (M.cell (i := 4) rfl (j := 33) step_a33))) ?_; clear F a; intro a F
    refine list_do (wn rfl) (fun K hK => ?_)
    obtain ⟨bt, hbt_⟩ : ∃ b, b = v.heap.size := ⟨_, rfl⟩
    have hgt : ∀ k, (Value.slice gA q.keys.length gc).ownBlock = some k → k < bt := fun k hk => by rw [hbt_]; exact (Ow_lt O_g hk).2
    have hlt : bg ≤ bt := by rw [hbt_]; exact Z_
    refine ow_call rfl rfl F 14 #[.agg #[.slice XA rks.length xc, .int .u64 rnx], .int .i64 tm] (ex_call 14 _ _ rfl rfl rx_ent_14 _ (map2 (F.e rfl) (F.e rfl))) (pru_o hq XA xc _ (lent_rd O_x) (lent_le O_x)) (fun e u hR => ?_)
    obtain ⟨tA, tc, he, O_t, hb⟩ := hR
    replace O_t : Ow kKey 107 u bt (.slice tA q.keys.length tc) q.keys := by rw [hbt_]; exact O_t
    replace Z_ : bt ≤ u.heap.size := by rw [hbt_]; exact hb.size
    clear hbt_
    refine ⟨.agg #[.slice tA q.keys.length tc, .int .u64 q.next], he, ?_⟩; clear he F a; intro a F
    refine hK _ _ ?_
    clear hK K
    replace S_ := S_.below hb
    replace O_x := O_x.below hb
    replace O_w := O_w.below hb
    replace O_g := O_g.below hb
    replace M := M.below hb; clear hb; try clear v
    refine list_do (wn rfl) (fun K hK => ?_)
    refine ow_put F M rfl 69 _ _ rfl 0 _ #[.slice none 0 0, .int .u64 0] _ rfl (F.e rfl) #[.slice tA q.keys.length tc, .int .u64 q.next] (F.e rfl) (sz_row (m := 2) rx_row_69_2) rfl (by simp [Value.oneCell']) ?_
    clear F a; have Mo := M; clear M; intro a v F M hgr
    refine hK _ _ ?_
    clear hK K
    replace S_ := S_.grown (Mo.blk 0 _ rfl) (by show (69 : Nat) ≠ 50 ∧ (69 : Nat) ≠ 55 ∧ (69 : Nat) ≠ 3 ∧ (69 : Nat) ≠ 66 ∧ (69 : Nat) ≠ 107; decide) hgr
    replace O_x := Ow.grown (enc := Key.cs) (m := 34) (hl := Key.cs_len) (h1 := Key.cs_one) O_x (Mo.blk 0 _ rfl) (.inl (by show (107 : Nat) ≠ 69; decide)) hgr
    replace O_w := Ow.grown (enc := Key.cs) (m := 34) (hl := Key.cs_len) (h1 := Key.cs_one) O_w (Mo.blk 0 _ rfl) (.inl (by show (107 : Nat) ≠ 69; decide)) hgr
    replace O_g := Ow.grown (enc := Key.cs) (m := 34) (hl := Key.cs_len) (h1 := Key.cs_one) O_g (Mo.blk 0 _ rfl) (.inl (by show (107 : Nat) ≠ 69; decide)) hgr
    replace O_t := Ow.grown (enc := Key.cs) (m := 34) (hl := Key.cs_len) (h1 := Key.cs_one) O_t (Mo.blk 0 _ rfl) (.inl (by show (107 : Nat) ≠ 69; decide)) hgr
    replace Z_ := Nat.le_trans Z_ hgr.size
    clear Mo hgr; try clear u
    replace M : Mm w v [⟨g13, #[.slice tA q.keys.length tc, .int .u64 q.next], 69⟩, ⟨g11, #[.slice gA q.keys.length gc, .int .u64 q.next], 69⟩, ⟨g10, #[.slice XA rks.length xc, .int .u64 rnx], 69⟩, ⟨g8, #[.slice wA q.keys.length wc, .int .u64 q.next], 69⟩, ⟨g7, (stepCs act s tm kid (.slice B ks.length b) next).toArray, 72⟩, ⟨g5, #[.slice RA rks.length rc, .int .u64 rnx], 69⟩] := M
    refine wpList_nil ?_
    refine in_n ?_
    refine then_n ?_
    refine wp_seq ?_
    refine wp_seq ?_
    refine wp_region_lit ?_
    refine list_val F (wn rfl) rfl rfl (.pointer (some ⟨g10, 0, none⟩)) (ex_fa _ _ _ rfl _ (F.e rfl) 0 rx_fa_69_0_0 ⟨g10, 0, none⟩ rfl) ?_; clear F a; intro a F
    refine list_val F (wn rfl) rfl rfl (.slice XA rks.length xc) (ex_load _ _ rfl _ (F.e rfl) _ (lv1 rx_one_55 (M.cell (i := 2) rfl (j := 0) rfl))) ?_; clear F a; intro a F
    refine list_val F (wn rfl) rfl rfl (.pointer (some ⟨g5, 0, none⟩)) (ex_fa _ _ _ rfl _ (F.e rfl) 0 rx_fa_69_0_0 ⟨g5, 0, none⟩ rfl) ?_; clear F a; intro a F
    refine list_val F (wn rfl) rfl rfl (.slice RA rks.length rc) (ex_load _ _ rfl _ (F.e rfl) _ (lv1 rx_one_55 (M.cell (i := 5) rfl (j := 0) rfl))) ?_; clear F a; intro a F
    refine list_do (wn rfl) (fun K hK => ?_)
    refine ow_call rfl rfl F 19 #[.slice XA rks.length xc, .slice RA rks.length rc] (ex_call 19 _ _ rfl rfl rx_ent_19 _ (map2 (F.e rfl) (F.e rfl))) (backKeys_any rks _ xc _ rc _ (Ow.rd (k := kKey) O_x).1 (Ow.rd (k := kKey) O_x).2.2 S_.rd S_.rc (by omega)) (fun e u hR => ?_)
    obtain ⟨he, hb⟩ := hR
    refine ⟨.bool true, he, ?_⟩; clear he F a; intro a F
    refine hK _ _ ?_
    clear hK K
    replace S_ := S_.below hb
    replace O_x := O_x.below hb
    replace O_w := O_w.below hb
    replace O_g := O_g.below hb
    replace O_t := O_t.below hb
    replace Z_ := Nat.le_trans Z_ hb.size
    replace M := M.below hb; clear hb; try clear v
    refine list_val F (wn rfl) rfl rfl (.bool false) (ex_not _ _ rfl _ (F.e rfl) _ rfl) ?_; clear F a; intro a F
    refine wpList_nil ?_
    replace F : Fr 199 a [(0, .slice (some adt) l.length c), (2, .bool false), (3, .pointer (some ⟨g15, 0, none⟩)), (4, .pointer (some ⟨g17, 0, none⟩)), (5, .pointer (some ⟨g5, 0, none⟩)), (6, .int .i64 i), (7, .pointer (some ⟨g7, 0, none⟩)), (8, .pointer (some ⟨g8, 0, none⟩)), (9, .int .i64 0), (10, .pointer (some ⟨g10, 0, none⟩)), (11, .pointer (some ⟨g11, 0, none⟩)), (12, .int .i64 0), (13, .pointer (some ⟨g13, 0, none⟩)), (26, .bool true), (38, .int .i64 act), (39, .bool false), (50, .bool false), (79, .bool true), (147, .bool false)] := F.keep ⟨rfl, rfl, rfl, rfl, rfl, rfl, rfl, rfl, rfl, rfl, rfl, rfl, rfl, rfl, rfl, rfl, rfl, rfl, rfl, trivial⟩
    refine then_n ?_
    refine wp_cond_false (F.e rfl) ?_
    refine wp_skip ?_
    refine then_n ?_
    refine wp_seq ?_
    refine wp_region_lit ?_
    refine list_val F (wn rfl) rfl rfl (.pointer (some ⟨g10, 0, none⟩)) (ex_fa _ _ _ rfl _ (F.e rfl) 0 rx_fa_69_0_0 ⟨g10, 0, none⟩ rfl) ?_; clear F a; intro a F
    refine list_val F (wn rfl) rfl rfl (.slice XA rks.length xc) (ex_load _ _ rfl _ (F.e rfl) _ (lv1 rx_one_55 (M.cell (i := 2) rfl (j := 0) rfl))) ?_; clear F a; intro a F
    refine list_do (wn rfl) (fun K hK => ?_)
    refine ow_call rfl rfl F 20 #[.slice XA rks.length xc] (ex_call 20 _ _ rfl rfl rx_ent_20 _ (map1 (F.e rfl))) (over_own O_x (by omega)) (fun e v hR => ?_)
    obtain ⟨he, gx, cx, hcx, hbx, hox, hgr⟩ := hR
    refine ⟨.tuple #[], he, ?_⟩; clear he F a; intro a F
    refine hK _ _ ?_
    clear hK K
    replace S_ := S_.over hcx hlx hbx hgr
    replace O_w := Ow_ap O_w (by have h_ := hxw _ hox; omega) hgr
    replace O_g := Ow_ap O_g (by have h_ := hxw _ hox; omega) hgr
    replace O_t := Ow_ap O_t (by have h_ := hxw _ hox; omega) hgr
    replace Z_ := Nat.le_trans Z_ hgr.size
    replace M := mm_grows M (base := w.heap.size) (Nat.le_refl _) ⟨.inl (by show (69 : Nat) ≠ 107; decide), .inl (by show (69 : Nat) ≠ 107; decide), .inl (by show (69 : Nat) ≠ 107; decide), .inl (by show (69 : Nat) ≠ 107; decide), .inl (by show (72 : Nat) ≠ 107; decide), .inl (by show (69 : Nat) ≠ 107; decide), trivial⟩ ⟨some gx, hgr, fun g e => by injection e with e; subst e; exact ⟨Nat.le_trans S_.lim.1 (Nat.le_trans hlx hbx), cx, hcx⟩⟩
    clear O_x hcx hgr; try clear u
    refine wpList_nil ?_
    refine then_n ?_
    refine wp_seq ?_
    refine wp_seq ?_
    refine wp_region_lit ?_
    refine list_val F (wn rfl) rfl rfl (.pointer (some ⟨g7, 0, none⟩)) (ex_fa _ _ _ rfl _ (F.e rfl) 0 rx_fa_72_0_0 ⟨g7, 0, none⟩ rfl) ?_; clear F a; intro a F
    refine list_val F (wn rfl) rfl rfl (.int .i64 act) (ex_load _ _ rfl _ (F.e rfl) _ (lv1 rx_one_3 (M.cell (i := 4) rfl (j := 0) rfl))) ?_; clear F a; intro a F
    refine list_val F (wn rfl) rfl rfl (.bool true) (ex_bin .geq _ _ _ _ rfl .i64 _ _ (F.e rfl) rfl _ (b_geq (decide_eq_true (by omega)))) ?_; clear F a; intro a F
    refine list_val F (wn rfl) rfl rfl (.bool true) (ex_move _ rfl _ (F.e rfl)) ?_; clear F a; intro a F
    refine list_val F (F.wants 154 true rfl (by kernel_rfl) rfl true rfl) rfl rfl (.pointer (some ⟨g7, 0, none⟩)) (ex_fa _ _ _ rfl _ (F.e rfl) 0 rx_fa_72_0_0 ⟨g7, 0, none⟩ rfl) ?_; clear F a; intro a F
    refine list_val F (F.wants 154 true rfl (by kernel_rfl) rfl true rfl) rfl rfl (.int .i64 act) (ex_load _ _ rfl _ (F.e rfl) _ (lv1 rx_one_3 (M.cell (i := 4) rfl (j := 0) rfl))) ?_; clear F a; intro a F
    refine list_val F (F.wants 154 true rfl (by kernel_rfl) rfl true rfl) rfl rfl (.bool true) (ex_bin .leq _ _ _ _ rfl .i64 _ _ (F.e rfl) rfl _ (b_leq (decide_eq_true (by omega)))) ?_; clear F a; intro a F
    refine list_val F (wn rfl) rfl rfl (.bool true) (ex_pick_t _ _ _ rfl (F.e rfl) _ (F.e rfl)) ?_; clear F a; intro a F
    refine wpList_nil ?_
    refine then_n ?_
    refine wp_cond_true (F.e rfl) ?_
    refine wp_seq ?_
    refine wp_seq ?_
    refine wp_region_lit ?_
    refine list_val F (wn rfl) rfl rfl (.agg #[.slice gA q.keys.length gc, .int .u64 q.next]) (ex_load _ _ rfl _ (F.e rfl) _ (lvr (cs := [.slice gA q.keys.length gc, .int .u64 q.next]) rx_row_69_2 (M.at (i := 1) rfl))) ?_; clear F a; intro a F
    refine list_val F (wn rfl) rfl rfl (.agg #[.slice wA q.keys.length wc, .int .u64 q.next]) (ex_load _ _ rfl _ (F.e rfl) _ (lvr (cs := [.slice wA q.keys.length wc, .int .u64 q.next]) rx_row_69_2 (M.at (i := 3) rfl))) ?_; clear F a; intro a F
    refine list_do (wn rfl) (fun K hK => ?_)
    refine ow_call rfl rfl F 21 #[.agg #[.slice gA q.keys.length gc, .int .u64 q.next], .agg #[.slice wA q.keys.length wc, .int .u64 q.next]] (ex_call 21 _ _ rfl rfl rx_ent_21 _ (map2 (F.e rfl) (F.e rfl))) (eq_q q _ _ _ _ _ (own_ro O_g rfl _) (own_ro O_w rfl _)) (fun e u hR => ?_)
    obtain ⟨he, hb⟩ := hR
    refine ⟨.bool true, he, ?_⟩; clear he F a; intro a F
    refine hK _ _ ?_
    clear hK K
    replace S_ := S_.below hb
    replace O_w := O_w.below hb
    replace O_g := O_g.below hb
    replace O_t := O_t.below hb
    replace Z_ := Nat.le_trans Z_ hb.size
    replace M := M.below hb; clear hb; try clear v
    refine list_val F (wn rfl) rfl rfl (.bool false) (ex_not _ _ rfl _ (F.e rfl) _ rfl) ?_; clear F a; intro a F
    refine list_val F (wn rfl) rfl rfl (.bool false) (ex_move _ rfl _ (F.e rfl)) ?_; clear F a; intro a F
    refine list_val F (F.wants 163 false rfl (by kernel_rfl) rfl true rfl) rfl rfl (.int .i64 0) (ex_move _ rfl _ (F.e rfl)) ?_; clear F a; intro a F
    refine list_do (F.wants 163 false rfl (by kernel_rfl) rfl true rfl) (fun K hK => ?_)
    refine ow_call rfl rfl F 22 #[.int .i64 0] (ex_call 22 _ _ rfl rfl rx_ent_22 _ (map1 (F.e rfl))) (num_any _ _) (fun e v hR => ?_)
    obtain ⟨he, hw⟩ := hR
    replace hw := hw.symm
    refine ⟨.int .i64 0, he, ?_⟩; clear he F a; intro a F
    replace hw := hw.symm; subst hw
    refine hK _ _ ?_
    clear hK K
    refine list_val F (F.wants 163 false rfl (by kernel_rfl) rfl true rfl) rfl rfl (.int .i64 0) (ex_move _ rfl _ (F.e rfl)) ?_; clear F a; intro a F
    refine list_val F (F.wants 163 false rfl (by kernel_rfl) rfl true rfl) rfl rfl (.bool false) (ex_bin .neq _ _ _ _ rfl .i64 _ _ (F.e rfl) (F.e rfl) _ (b_neq (by decide))) ?_; clear F a; intro a F
    refine list_val F (wn rfl) rfl rfl (.bool false) (ex_pick_f _ _ _ rfl (F.e rfl) _ (F.e rfl)) ?_; clear F a; intro a F
    refine wpList_nil ?_
    refine then_n ?_
    refine wp_cond_false (F.e rfl) ?_
    refine wp_skip ?_
    refine then_n ?_
    refine wp_seq ?_
    have hlwg := hlg; have hlgt := hlt
    replace S_ := S_.setr O_w (Nat.le_trans S_.lim.1 hlw) (fun k hk => ⟨S_.fresh k (by have h_ := (Ow_lt O_w hk).1; omega), hwg k hk⟩) hlw (by omega) (Nat.le_trans hlt Z_)
    clear O_w
    refine wp_region_lit ?_
    refine list_val F (wn rfl) rfl rfl (.pointer (some ⟨g15, 0, none⟩)) (ex_move _ rfl _ (F.e rfl)) ?_; clear F a; intro a F
    refine list_val F (wn rfl) rfl rfl (.agg #[.slice gA q.keys.length gc, .int .u64 q.next]) (ex_load _ _ rfl _ (F.e rfl) _ (lvr (cs := [.slice gA q.keys.length gc, .int .u64 q.next]) rx_row_69_2 (M.at (i := 1) rfl))) ?_; clear F a; intro a F
    refine list_do (wn rfl) (fun K hK => ?_)
    refine ow_call rfl rfl F 23 #[.pointer (some ⟨g15, 0, none⟩), .agg #[.slice gA q.keys.length gc, .int .u64 q.next]] (ex_call 23 _ _ rfl rfl rx_ent_23 _ (map2 (F.e rfl) (F.e rfl))) (bookRing_any own w.heap.size bg g15 g17 tn wA wc q.keys _ S_ bg (by omega) gA gc q.keys q.next O_g bt hgt (by omega) Z_ (by omega) (by omega)) (fun e v hR => ?_)
    obtain ⟨he, own2, S2, ho2, ho⟩ := hR
    refine ⟨.tuple #[], he, ?_⟩; clear he F a; intro a F
    refine hK _ _ ?_
    clear hK K
    replace M := mm_onlyT M ho (Nat.le_refl _) M.bel.size (fun k hk => Ow_cells O_g hk) ⟨⟨by show (69 : Nat) ∉ [50, 55, 3]; decide, by show (69 : Nat) ≠ 107; decide⟩, ⟨by show (69 : Nat) ∉ [50, 55, 3]; decide, by show (69 : Nat) ≠ 107; decide⟩, ⟨by show (69 : Nat) ∉ [50, 55, 3]; decide, by show (69 : Nat) ≠ 107; decide⟩, ⟨by show (69 : Nat) ∉ [50, 55, 3]; decide, by show (69 : Nat) ≠ 107; decide⟩, ⟨by show (72 : Nat) ∉ [50, 55, 3]; decide, by show (72 : Nat) ≠ 107; decide⟩, ⟨by show (69 : Nat) ∉ [50, 55, 3]; decide, by show (69 : Nat) ≠ 107; decide⟩, trivial⟩
    replace O_t := Ow_only O_t ho (by decide) (fun k hk e => by have h1 := (Ow_lt O_t hk).1; have h2 := hgt k e; omega)
    replace Z_ := Nat.le_trans Z_ ho.size
    clear S_ O_g ho ho2; have S_ := S2; clear S2; try clear u
    refine wpList_nil ?_
    refine then_n ?_
    refine wp_seq ?_
    refine wp_seq ?_
    refine wp_region_lit ?_
    refine list_val F (wn rfl) rfl rfl (.agg #[.slice tA q.keys.length tc, .int .u64 q.next]) (ex_load _ _ rfl _ (F.e rfl) _ (lvr (cs := [.slice tA q.keys.length tc, .int .u64 q.next]) rx_row_69_2 (M.at (i := 0) rfl))) ?_; clear F a; intro a F
    refine list_val F (wn rfl) rfl rfl (.agg #[.slice wA q.keys.length wc, .int .u64 q.next]) (ex_load _ _ rfl _ (F.e rfl) _ (lvr (cs := [.slice wA q.keys.length wc, .int .u64 q.next]) rx_row_69_2 (M.at (i := 3) rfl))) ?_; clear F a; intro a F
    refine list_do (wn rfl) (fun K hK => ?_)
    refine ow_call rfl rfl F 21 #[.agg #[.slice tA q.keys.length tc, .int .u64 q.next], .agg #[.slice wA q.keys.length wc, .int .u64 q.next]] (ex_call 21 _ _ rfl rfl rx_ent_21 _ (map2 (F.e rfl) (F.e rfl))) (eq_q q _ _ _ _ _ (own_ro O_t rfl _) (own_ro (show OwnKeys _ _ (.slice wA q.keys.length wc) _ from S_.ring.1) rfl _)) (fun e u hR => ?_)
    obtain ⟨he, hb⟩ := hR
    refine ⟨.bool true, he, ?_⟩; clear he F a; intro a F
    refine hK _ _ ?_
    clear hK K
    replace S_ := S_.below hb
    replace O_t := O_t.below hb
    replace Z_ := Nat.le_trans Z_ hb.size
    replace M := M.below hb; clear hb; try clear v
    refine list_val F (wn rfl) rfl rfl (.bool false) (ex_not _ _ rfl _ (F.e rfl) _ rfl) ?_; clear F a; intro a F
    refine wpList_nil ?_
    refine then_n ?_
    refine wp_cond_false (F.e rfl) ?_
    refine wp_skip ?_
    refine then_n ?_
    refine wp_seq ?_
    refine wp_region_lit ?_
    refine list_val F (wn rfl) rfl rfl (.pointer (some ⟨g15, 0, none⟩)) (ex_move _ rfl _ (F.e rfl)) ?_; clear F a; intro a F
    refine list_val F (wn rfl) rfl rfl (.agg #[.slice tA q.keys.length tc, .int .u64 q.next]) (ex_load _ _ rfl _ (F.e rfl) _ (lvr (cs := [.slice tA q.keys.length tc, .int .u64 q.next]) rx_row_69_2 (M.at (i := 0) rfl))) ?_; clear F a; intro a F
    refine list_do (wn rfl) (fun K hK => ?_)
    refine ow_call rfl rfl F 23 #[.pointer (some ⟨g15, 0, none⟩), .agg #[.slice tA q.keys.length tc, .int .u64 q.next]] (ex_call 23 _ _ rfl rfl rx_ent_23 _ (map2 (F.e rfl) (F.e rfl))) (bookRing_any own2 w.heap.size bt g15 g17 (tn + 1) wA wc q.keys _ S_ bt (by omega) tA tc q.keys q.next O_t u.heap.size (fun k hk => (Ow_lt O_t hk).2) (by omega) (Nat.le_refl _) (by omega) (by omega)) (fun e v hR => ?_)
    obtain ⟨he, own3, S2, ho2, ho⟩ := hR
    refine ⟨.tuple #[], he, ?_⟩; clear he F a; intro a F
    refine hK _ _ ?_
    clear hK K
    replace M := mm_onlyT M ho (Nat.le_refl _) M.bel.size (fun k hk => Ow_cells O_t hk) ⟨⟨by show (69 : Nat) ∉ [50, 55, 3]; decide, by show (69 : Nat) ≠ 107; decide⟩, ⟨by show (69 : Nat) ∉ [50, 55, 3]; decide, by show (69 : Nat) ≠ 107; decide⟩, ⟨by show (69 : Nat) ∉ [50, 55, 3]; decide, by show (69 : Nat) ≠ 107; decide⟩, ⟨by show (69 : Nat) ∉ [50, 55, 3]; decide, by show (69 : Nat) ≠ 107; decide⟩, ⟨by show (72 : Nat) ∉ [50, 55, 3]; decide, by show (72 : Nat) ≠ 107; decide⟩, ⟨by show (69 : Nat) ∉ [50, 55, 3]; decide, by show (69 : Nat) ≠ 107; decide⟩, trivial⟩
    obtain ⟨lf, hlf⟩ : ∃ l, l = u.heap.size := ⟨_, rfl⟩
    rw [← hlf] at S2
    have hlf2 : bt ≤ lf := by rw [hlf]; exact Z_
    clear hlf
    clear S_ O_t ho ho2; have S_ := S2; clear S2 Z_; try clear u
    refine wpList_nil ?_
    refine then_n ?_
    refine wp_seq ?_
    refine wp_region_lit ?_
    refine list_val F (wn rfl) rfl rfl (.int .i64 0) (ex_move _ rfl _ (F.e rfl)) ?_; clear F a; intro a F
    refine list_val F (wn rfl) rfl rfl (.bool false) (ex_bin .neq _ _ _ _ rfl .i64 _ _ (F.e rfl) rfl _ (b_neq (by decide))) ?_; clear F a; intro a F
    refine wpList_nil ?_
    refine then_n ?_
    refine wp_cond_false (F.e rfl) ?_
    refine wp_skip ?_
    refine then_n ?_
    refine wp_seq ?_
    refine wp_region_lit ?_
    refine list_val F (wn rfl) rfl rfl (.agg #[.slice wA q.keys.length wc, .int .u64 q.next]) (ex_load _ _ rfl _ (F.e rfl) _ (lvr (cs := [.slice wA q.keys.length wc, .int .u64 q.next]) rx_row_69_2 (M.at (i := 3) rfl))) ?_; clear F a; intro a F
    refine list_do (wn rfl) (fun K hK => ?_)
    refine ow_put F M rfl 69 _ _ rfl 5 _ #[.slice RA rks.length rc, .int .u64 rnx] _ rfl (F.e rfl) #[.slice wA q.keys.length wc, .int .u64 q.next] (F.e rfl) (sz_row (m := 2) rx_row_69_2) rfl (by simp [Value.oneCell']) ?_
    clear F a; have Mo := M; clear M; intro a u F M hgr
    refine hK _ _ ?_
    clear hK K
    replace S_ := S_.grown (Mo.blk 5 _ rfl) (by show (69 : Nat) ≠ 50 ∧ (69 : Nat) ≠ 55 ∧ (69 : Nat) ≠ 3 ∧ (69 : Nat) ≠ 66 ∧ (69 : Nat) ≠ 107; decide) hgr
    clear Mo hgr; try clear v
    replace M : Mm w u [⟨g13, #[.slice tA q.keys.length tc, .int .u64 q.next], 69⟩, ⟨g11, #[.slice gA q.keys.length gc, .int .u64 q.next], 69⟩, ⟨g10, #[.slice XA rks.length xc, .int .u64 rnx], 69⟩, ⟨g8, #[.slice wA q.keys.length wc, .int .u64 q.next], 69⟩, ⟨g7, (stepCs act s tm kid (.slice B ks.length b) next).toArray, 72⟩, ⟨g5, #[.slice wA q.keys.length wc, .int .u64 q.next], 69⟩] := M
    refine wpList_nil ?_
    refine then_n ?_
    refine wp_seq ?_
    refine wp_region_lit ?_
    refine list_val F (wn rfl) rfl rfl (.agg #[.slice wA q.keys.length wc, .int .u64 q.next]) (ex_load _ _ rfl _ (F.e rfl) _ (lvr (cs := [.slice wA q.keys.length wc, .int .u64 q.next]) rx_row_69_2 (M.at (i := 5) rfl))) ?_; clear F a; intro a F
    refine list_val F (wn rfl) rfl rfl (.pointer (some ⟨g7, 34, none⟩)) (ex_fa _ _ _ rfl _ (F.e rfl) 34 rx_fa_72_3_34 ⟨g7, 34, none⟩ rfl) ?_; clear F a; intro a F
    refine list_val F (wn rfl) rfl rfl (.int .u64 kid) (ex_load _ _ rfl _ (F.e rfl) _ (lv1 rx_one_67 (M.cell (i := 4) rfl (j := 34) step_a34))) ?_; clear F a; intro a F
    refine list_do (wn rfl) (fun K hK => ?_)
    refine ow_call rfl rfl F 17 #[.agg #[.slice wA q.keys.length wc, .int .u64 q.next], .int .u64 kid] (ex_call 17 _ _ rfl rfl rx_ent_17 _ (map2 (F.e rfl) (F.e rfl))) (asks_any q.keys wA wc q.next kid _ S_.rd S_.rc (by omega)) (fun e v hR => ?_)
    obtain ⟨he, hb⟩ := hR
    refine ⟨.bool true, he, ?_⟩; clear he F a; intro a F
    refine hK _ _ ?_
    clear hK K
    replace S_ := S_.below hb
    replace M := M.below hb; clear hb; try clear u
    refine list_val F (wn rfl) rfl rfl (.bool false) (ex_not _ _ rfl _ (F.e rfl) _ rfl) ?_; clear F a; intro a F
    refine list_val F (wn rfl) rfl rfl (.bool false) (ex_move _ rfl _ (F.e rfl)) ?_; clear F a; intro a F
    refine list_val F (F.wants 188 false rfl (by kernel_rfl) rfl true rfl) rfl rfl (.pointer (some ⟨g17, 0, none⟩)) (ex_move _ rfl _ (F.e rfl)) ?_; clear F a; intro a F
    refine list_val F (F.wants 188 false rfl (by kernel_rfl) rfl true rfl) rfl rfl (.agg #[.slice wA q.keys.length wc, .int .u64 q.next]) (ex_load _ _ rfl _ (F.e rfl) _ (lvr (cs := [.slice wA q.keys.length wc, .int .u64 q.next]) rx_row_69_2 (M.at (i := 5) rfl))) ?_; clear F a; intro a F
    refine list_do (F.wants 188 false rfl (by kernel_rfl) rfl true rfl) (fun K hK => ?_)
    refine ow_call rfl rfl F 24 #[.pointer (some ⟨g17, 0, none⟩), .agg #[.slice wA q.keys.length wc, .int .u64 q.next]] (ex_call 24 _ _ rfl rfl rx_ent_24 _ (map2 (F.e rfl) (F.e rfl))) (placed_any own3 w.heap.size lf g15 g17 (tn + 1 + 1) wA wc q.keys _ S_ q.next (by omega)) (fun e u hR => ?_)
    obtain ⟨he, S2, x_, ho, hx_⟩ := hR
    refine ⟨.bool true, he, ?_⟩; clear he F a; intro a F
    refine hK _ _ ?_
    clear hK K
    replace M := mm_onlyT M ho (Nat.le_refl _) M.bel.size (fun k hk => (hx_ k hk).2) ⟨⟨by show (69 : Nat) ∉ [66]; decide, by show (69 : Nat) ≠ 107; decide⟩, ⟨by show (69 : Nat) ∉ [66]; decide, by show (69 : Nat) ≠ 107; decide⟩, ⟨by show (69 : Nat) ∉ [66]; decide, by show (69 : Nat) ≠ 107; decide⟩, ⟨by show (69 : Nat) ∉ [66]; decide, by show (69 : Nat) ≠ 107; decide⟩, ⟨by show (72 : Nat) ∉ [66]; decide, by show (72 : Nat) ≠ 107; decide⟩, ⟨by show (69 : Nat) ∉ [66]; decide, by show (69 : Nat) ≠ 107; decide⟩, trivial⟩
    obtain ⟨lz, hlz⟩ : ∃ l, l = u.heap.size := ⟨_, rfl⟩
    rw [← hlz] at S2
    clear S_ ho hx_ hlz; have S_ := S2; clear S2; try clear v
    refine list_val F (F.wants 188 false rfl (by kernel_rfl) rfl true rfl) rfl rfl (.bool false) (ex_not _ _ rfl _ (F.e rfl) _ rfl) ?_; clear F a; intro a F
    refine list_val F (wn rfl) rfl rfl (.bool false) (ex_pick_f _ _ _ rfl (F.e rfl) _ (F.e rfl)) ?_; clear F a; intro a F
    refine wpList_nil ?_
    refine then_n ?_
    refine wp_cond_false (F.e rfl) ?_
    refine wp_skip ?_
    refine in_n ?_
    refine then_n ?_
    refine wp_region_lit ?_
    refine list_val F (wn rfl) rfl rfl (.int .i64 i) (ex_move _ rfl _ (F.e rfl)) ?_; clear F a; intro a F
    refine list_val F (wn rfl) rfl rfl (.int .i64 (i + 1)) (ex_bin .add _ _ _ _ rfl .i64 _ _ (F.e rfl) rfl _ (b_add (w_i64 (by omega) (by omega)))) ?_; clear F a; intro a F
    refine list_val F (wn rfl) rfl rfl (.int .i64 (i + 1)) (ex_assign _ rfl _ (F.e rfl)) ?_; clear F a; intro a F
    refine wpList_nil ?_
    refine then_n ?_
    exact ⟨l.length - (i + 1), by omega, (i + 1), own3, lz, (tn + 1 + 1), wA, wc, q.keys, q.next, F.keep ⟨rfl, rfl, rfl, rfl, rfl, rfl, trivial⟩, (by refine M.pick' [5] _ ?_ (by decide); exact ⟨rfl, trivial⟩), S_, (by omega), (by omega), (by omega), (by omega), (by omega), (by omega)⟩
   refine wp_region_lit ?_
   refine list_val F (wn rfl) rfl rfl (.bool false) (ex_bin .eql _ _ _ _ rfl .i64 _ _ (F.e rfl) rfl _ (b_eql (beq_eq_false_iff_ne.2 ha3))) ?_; clear F a; intro a F
   refine list_val F (wn rfl) rfl rfl (.bool false) (ex_assign _ rfl _ (F.e rfl)) ?_; clear F a; intro a F
   refine wpList_nil ?_
   replace F : Fr 199 a [(0, .slice (some adt) l.length c), (2, .bool false), (3, .pointer (some ⟨g15, 0, none⟩)), (4, .pointer (some ⟨g17, 0, none⟩)), (5, .pointer (some ⟨g5, 0, none⟩)), (6, .int .i64 i), (7, .pointer (some ⟨g7, 0, none⟩)), (8, .pointer (some ⟨g8, 0, none⟩)), (9, .int .i64 0), (10, .pointer (some ⟨g10, 0, none⟩)), (11, .pointer (some ⟨g11, 0, none⟩)), (12, .int .i64 0), (13, .pointer (some ⟨g13, 0, none⟩)), (26, .bool true), (38, .int .i64 act), (39, .bool false), (50, .bool false), (79, .bool false)] := F.keep ⟨rfl, rfl, rfl, rfl, rfl, rfl, rfl, rfl, rfl, rfl, rfl, rfl, rfl, rfl, rfl, rfl, rfl, rfl, trivial⟩
   refine then_n ?_
   refine wp_cond_false (F.e rfl) ?_
   refine wp_seq ?_
   by_cases ha4 : act = 4
   ·
    obtain ⟨q, n, hq⟩ : ∃ q n, distrustF ⟨rks, rnx⟩ kid s = (q, n) := ⟨_, _, rfl⟩
    have hqb := dis_bd hq hrn0
    refine wp_region_lit ?_
    refine list_val F (wn rfl) rfl rfl (.bool true) (ex_bin .eql _ _ _ _ rfl .i64 _ _ (F.e rfl) rfl _ (b_eql (by rw [ha4]; rfl))) ?_; clear F a; intro a F
    refine list_val F (wn rfl) rfl rfl (.bool true) (ex_assign _ rfl _ (F.e rfl)) ?_; clear F a; intro a F
    refine wpList_nil ?_
    refine then_n ?_
    refine wp_cond_true (F.e rfl) ?_
    refine wp_seq ?_
    refine wp_region_lit ?_
    refine list_val F (wn rfl) rfl rfl (.agg #[.slice RA rks.length rc, .int .u64 rnx]) (ex_load _ _ rfl _ (F.e rfl) _ (lvr (cs := [.slice RA rks.length rc, .int .u64 rnx]) rx_row_69_2 (M.at (i := 5) rfl))) ?_; clear F a; intro a F
    refine list_val F (wn rfl) rfl rfl (.pointer (some ⟨g7, 34, none⟩)) (ex_fa _ _ _ rfl _ (F.e rfl) 34 rx_fa_72_3_34 ⟨g7, 34, none⟩ rfl) ?_; clear F a; intro a F
    refine list_val F (wn rfl) rfl rfl (.int .u64 kid) (ex_load _ _ rfl _ (F.e rfl) _ (lv1 rx_one_67 (M.cell (i := 4) rfl (j := 34) step_a34))) ?_; clear F a; intro a F
    refine list_val F (wn rfl) rfl rfl (.pointer (some ⟨g7, 1, none⟩)) (ex_fa _ _ _ rfl _ (F.e rfl) 1 rx_fa_72_1_1 ⟨g7, 1, none⟩ rfl) ?_; clear F a; intro a F
    refine list_val F (wn rfl) rfl rfl (.agg s.cs.toArray) (ex_load _ _ rfl _ (F.e rfl) _ (lvr (cs := s.cs) (by rw [Bs.cs_len]; exact rx_row_70_32) (step_sec (M.at (i := 4) rfl)))) ?_; clear F a; intro a F
    refine list_do (wn rfl) (fun K hK => ?_)
    obtain ⟨bw, hbw_⟩ : ∃ b, b = v.heap.size := ⟨_, rfl⟩
    have hxw : ∀ k, (Value.slice XA (rks ++ marks).length xc).ownBlock = some k → k < bw := fun k hk => by rw [hbw_]; exact (Ow_lt O_x hk).2
    have hlw : lim ≤ bw := by rw [hbw_]; exact S_.lim.2
    refine ow_call rfl rfl F 15 #[.agg #[.slice RA rks.length rc, .int .u64 rnx], .int .u64 kid, .agg s.cs.toArray] (ex_call 15 _ _ rfl rfl rx_ent_15 _ (map3 (F.e rfl) (F.e rfl) (F.e rfl))) (rdis_o hq RA rc _ S_.rd S_.rc hrn0) (fun e u hR => ?_)
    obtain ⟨wA, wc, he, O_w, hb⟩ := hR
    replace O_w : Ow kKey 107 u bw (.slice wA q.keys.length wc) q.keys := by rw [hbw_]; exact O_w
    have Z_ : bw ≤ u.heap.size := by rw [hbw_]; exact hb.size
    clear hbw_
    refine ⟨.tuple #[.agg #[.slice wA q.keys.length wc, .int .u64 q.next], .int .i64 n], he, ?_⟩; clear he F a; intro a F
    refine hK _ _ ?_
    clear hK K
    replace S_ := S_.below hb
    replace O_x := O_x.below hb
    replace M := M.below hb; clear hb; try clear v
    refine list_val F (wn rfl) rfl rfl (.tuple #[.agg #[.slice wA q.keys.length wc, .int .u64 q.next], .int .i64 n]) (ex_move _ rfl _ (F.e rfl)) ?_; clear F a; intro a F
    refine list_val F (wn rfl) rfl rfl (.agg #[.slice wA q.keys.length wc, .int .u64 q.next]) (ex_extract _ _ rfl _ (F.e rfl) _ rfl) ?_; clear F a; intro a F
    refine list_val F (wn rfl) rfl rfl (.int .i64 n) (ex_extract _ _ rfl _ (F.e rfl) _ rfl) ?_; clear F a; intro a F
    refine list_do (wn rfl) (fun K hK => ?_)
    refine ow_put F M rfl 69 _ _ rfl 3 _ #[.slice RA rks.length rc, .int .u64 rnx] _ rfl (F.e rfl) #[.slice wA q.keys.length wc, .int .u64 q.next] (F.e rfl) (sz_row (m := 2) rx_row_69_2) rfl (by simp [Value.oneCell']) ?_
    clear F a; have Mo := M; clear M; intro a v F M hgr
    refine hK _ _ ?_
    clear hK K
    replace S_ := S_.grown (Mo.blk 3 _ rfl) (by show (69 : Nat) ≠ 50 ∧ (69 : Nat) ≠ 55 ∧ (69 : Nat) ≠ 3 ∧ (69 : Nat) ≠ 66 ∧ (69 : Nat) ≠ 107; decide) hgr
    replace O_x := Ow.grown (enc := Key.cs) (m := 34) (hl := Key.cs_len) (h1 := Key.cs_one) O_x (Mo.blk 3 _ rfl) (.inl (by show (107 : Nat) ≠ 69; decide)) hgr
    replace O_w := Ow.grown (enc := Key.cs) (m := 34) (hl := Key.cs_len) (h1 := Key.cs_one) O_w (Mo.blk 3 _ rfl) (.inl (by show (107 : Nat) ≠ 69; decide)) hgr
    replace Z_ := Nat.le_trans Z_ hgr.size
    clear Mo hgr; try clear u
    replace M : Mm w v [⟨g13, #[.slice none 0 0, .int .u64 0], 69⟩, ⟨g11, #[.slice RA rks.length rc, .int .u64 rnx], 69⟩, ⟨g10, #[.slice XA rks.length xc, .int .u64 rnx], 69⟩, ⟨g8, #[.slice wA q.keys.length wc, .int .u64 q.next], 69⟩, ⟨g7, (stepCs act s tm kid (.slice B ks.length b) next).toArray, 72⟩, ⟨g5, #[.slice RA rks.length rc, .int .u64 rnx], 69⟩] := M
    refine list_val F (wn rfl) rfl rfl (.int .i64 n) (ex_assign _ rfl _ (F.e rfl)) ?_; clear F a; intro a F
    refine wpList_nil ?_
    refine then_n ?_
    refine wp_seq ?_
    refine wp_region_lit ?_
    refine list_val F (wn rfl) rfl rfl (.agg #[.slice XA rks.length xc, .int .u64 rnx]) (ex_load _ _ rfl _ (F.e rfl) _ (lvr (cs := [.slice XA rks.length xc, .int .u64 rnx]) rx_row_69_2 (M.at (i := 2) rfl))) ?_; clear F a; intro a F
    refine list_val F (wn rfl) rfl rfl (.pointer (some ⟨g7, 34, none⟩)) (ex_fa _ _ _ rfl _ (F.e rfl) 34 rx_fa_72_3_34 ⟨g7, 34, none⟩ rfl) ?_; clear F a; intro a F
    refine list_val F (wn rfl) rfl rfl (.int .u64 kid) (ex_load _ _ rfl _ (F.e rfl) _ (lv1 rx_one_67 (M.cell (i := 4) rfl (j := 34) step_a34))) ?_; clear F a; intro a F
    refine list_val F (wn rfl) rfl rfl (.pointer (some ⟨g7, 1, none⟩)) (ex_fa _ _ _ rfl _ (F.e rfl) 1 rx_fa_72_1_1 ⟨g7, 1, none⟩ rfl) ?_; clear F a; intro a F
    refine list_val F (wn rfl) rfl rfl (.agg s.cs.toArray) (ex_load _ _ rfl _ (F.e rfl) _ (lvr (cs := s.cs) (by rw [Bs.cs_len]; exact rx_row_70_32) (step_sec (M.at (i := 4) rfl)))) ?_; clear F a; intro a F
    refine list_do (wn rfl) (fun K hK => ?_)
    obtain ⟨bg, hbg_⟩ : ∃ b, b = v.heap.size := ⟨_, rfl⟩
    have hwg : ∀ k, (Value.slice wA q.keys.length wc).ownBlock = some k → k < bg := fun k hk => by rw [hbg_]; exact (Ow_lt O_w hk).2
    have hlg : bw ≤ bg := by rw [hbg_]; exact Z_
    refine ow_call rfl rfl F 16 #[.agg #[.slice XA rks.length xc, .int .u64 rnx], .int .u64 kid, .agg s.cs.toArray] (ex_call 16 _ _ rfl rfl rx_ent_16 _ (map3 (F.e rfl) (F.e rfl) (F.e rfl))) (dis_o hq XA xc _ (lent_rd O_x) (lent_le O_x) hrn0) (fun e u hR => ?_)
    obtain ⟨gA, gc, he, O_g, hb⟩ := hR
    replace O_g : Ow kKey 107 u bg (.slice gA q.keys.length gc) q.keys := by rw [hbg_]; exact O_g
    replace Z_ : bg ≤ u.heap.size := by rw [hbg_]; exact hb.size
    clear hbg_
    refine ⟨.tuple #[.agg #[.slice gA q.keys.length gc, .int .u64 q.next], .int .i64 n], he, ?_⟩; clear he F a; intro a F
    refine hK _ _ ?_
    clear hK K
    replace S_ := S_.below hb
    replace O_x := O_x.below hb
    replace O_w := O_w.below hb
    replace M := M.below hb; clear hb; try clear v
    refine list_val F (wn rfl) rfl rfl (.tuple #[.agg #[.slice gA q.keys.length gc, .int .u64 q.next], .int .i64 n]) (ex_move _ rfl _ (F.e rfl)) ?_; clear F a; intro a F
    refine list_val F (wn rfl) rfl rfl (.agg #[.slice gA q.keys.length gc, .int .u64 q.next]) (ex_extract _ _ rfl _ (F.e rfl) _ rfl) ?_; clear F a; intro a F
    refine list_val F (wn rfl) rfl rfl (.int .i64 n) (ex_extract _ _ rfl _ (F.e rfl) _ rfl) ?_; clear F a; intro a F
    refine list_do (wn rfl) (fun K hK => ?_)
    refine ow_put F M rfl 69 _ _ rfl 1 _ #[.slice RA rks.length rc, .int .u64 rnx] _ rfl (F.e rfl) #[.slice gA q.keys.length gc, .int .u64 q.next] (F.e rfl) (sz_row (m := 2) rx_row_69_2) rfl (by simp [Value.oneCell']) ?_
    clear F a; have Mo := M; clear M; intro a v F M hgr
    refine hK _ _ ?_
    clear hK K
    replace S_ := S_.grown (Mo.blk 1 _ rfl) (by show (69 : Nat) ≠ 50 ∧ (69 : Nat) ≠ 55 ∧ (69 : Nat) ≠ 3 ∧ (69 : Nat) ≠ 66 ∧ (69 : Nat) ≠ 107; decide) hgr
    replace O_x := Ow.grown (enc := Key.cs) (m := 34) (hl := Key.cs_len) (h1 := Key.cs_one) O_x (Mo.blk 1 _ rfl) (.inl (by show (107 : Nat) ≠ 69; decide)) hgr
    replace O_w := Ow.grown (enc := Key.cs) (m := 34) (hl := Key.cs_len) (h1 := Key.cs_one) O_w (Mo.blk 1 _ rfl) (.inl (by show (107 : Nat) ≠ 69; decide)) hgr
    replace O_g := Ow.grown (enc := Key.cs) (m := 34) (hl := Key.cs_len) (h1 := Key.cs_one) O_g (Mo.blk 1 _ rfl) (.inl (by show (107 : Nat) ≠ 69; decide)) hgr
    replace Z_ := Nat.le_trans Z_ hgr.size
    clear Mo hgr; try clear u
    replace M : Mm w v [⟨g13, #[.slice none 0 0, .int .u64 0], 69⟩, ⟨g11, #[.slice gA q.keys.length gc, .int .u64 q.next], 69⟩, ⟨g10, #[.slice XA rks.length xc, .int .u64 rnx], 69⟩, ⟨g8, #[.slice wA q.keys.length wc, .int .u64 q.next], 69⟩, ⟨g7, (stepCs act s tm kid (.slice B ks.length b) next).toArray, 72⟩, ⟨g5, #[.slice RA rks.length rc, .int .u64 rnx], 69⟩] := M
    refine list_val F (wn rfl) rfl rfl (.int .i64 n) (ex_assign _ rfl _ (F.e rfl)) ?_; clear F a; intro a F
    refine wpList_nil ?_
    refine then_n ?_
    refine wp_region_lit ?_
    refine list_val F (wn rfl) rfl rfl (.agg #[.slice XA rks.length xc, .int .u64 rnx]) (ex_load _ _ rfl _ (F.e rfl) _ (lvr (cs := [.slice XA rks.length xc, .int .u64 rnx]) rx_row_69_2 (M.at (i := 2) rfl))) ?_; clear F a; intro a F
    refine list_val F (wn rfl) rfl rfl (.pointer (some ⟨g7, 34, none⟩)) (ex_fa _ _ _ rfl _ (F.e rfl) 34 rx_fa_72_3_34 ⟨g7, 34, none⟩ rfl) ?_; clear F a; intro a F
    refine list_val F (wn rfl) rfl rfl (.int .u64 kid) (ex_load _ _ rfl _ (F.e rfl) _ (lv1 rx_one_67 (M.cell (i := 4) rfl (j := 34) step_a34))) ?_; clear F a; intro a F
    refine list_val F (wn rfl) rfl rfl (.pointer (some ⟨g7, 1, none⟩)) (ex_fa _ _ _ rfl _ (F.e rfl) 1 rx_fa_72_1_1 ⟨g7, 1, none⟩ rfl) ?_; clear F a; intro a F
    refine list_val F (wn rfl) rfl rfl (.agg s.cs.toArray) (ex_load _ _ rfl _ (F.e rfl) _ (lvr (cs := s.cs) (by rw [Bs.cs_len]; exact rx_row_70_32) (step_sec (M.at (i := 4) rfl)))) ?_; clear F a; intro a F
    refine list_do (wn rfl) (fun K hK => ?_)
    obtain ⟨bt, hbt_⟩ : ∃ b, b = v.heap.size := ⟨_, rfl⟩
    have hgt : ∀ k, (Value.slice gA q.keys.length gc).ownBlock = some k → k < bt := fun k hk => by rw [hbt_]; exact (Ow_lt O_g hk).2
    have hlt : bg ≤ bt := by rw [hbt_]; exact Z_
    refine ow_call rfl rfl F 16 #[.agg #[.slice XA rks.length xc, .int .u64 rnx], .int .u64 kid, .agg s.cs.toArray] (ex_call 16 _ _ rfl rfl rx_ent_16 _ (map3 (F.e rfl) (F.e rfl) (F.e rfl))) (dis_o hq XA xc _ (lent_rd O_x) (lent_le O_x) hrn0) (fun e u hR => ?_)
    obtain ⟨tA, tc, he, O_t, hb⟩ := hR
    replace O_t : Ow kKey 107 u bt (.slice tA q.keys.length tc) q.keys := by rw [hbt_]; exact O_t
    replace Z_ : bt ≤ u.heap.size := by rw [hbt_]; exact hb.size
    clear hbt_
    refine ⟨.tuple #[.agg #[.slice tA q.keys.length tc, .int .u64 q.next], .int .i64 n], he, ?_⟩; clear he F a; intro a F
    refine hK _ _ ?_
    clear hK K
    replace S_ := S_.below hb
    replace O_x := O_x.below hb
    replace O_w := O_w.below hb
    replace O_g := O_g.below hb
    replace M := M.below hb; clear hb; try clear v
    refine list_val F (wn rfl) rfl rfl (.tuple #[.agg #[.slice tA q.keys.length tc, .int .u64 q.next], .int .i64 n]) (ex_move _ rfl _ (F.e rfl)) ?_; clear F a; intro a F
    refine list_val F (wn rfl) rfl rfl (.agg #[.slice tA q.keys.length tc, .int .u64 q.next]) (ex_extract _ _ rfl _ (F.e rfl) _ rfl) ?_; clear F a; intro a F
    refine list_val F (wn rfl) rfl rfl (.int .i64 n) (ex_extract _ _ rfl _ (F.e rfl) _ rfl) ?_; clear F a; intro a F
    refine list_do (wn rfl) (fun K hK => ?_)
    refine ow_put F M rfl 69 _ _ rfl 0 _ #[.slice none 0 0, .int .u64 0] _ rfl (F.e rfl) #[.slice tA q.keys.length tc, .int .u64 q.next] (F.e rfl) (sz_row (m := 2) rx_row_69_2) rfl (by simp [Value.oneCell']) ?_
    clear F a; have Mo := M; clear M; intro a v F M hgr
    refine hK _ _ ?_
    clear hK K
    replace S_ := S_.grown (Mo.blk 0 _ rfl) (by show (69 : Nat) ≠ 50 ∧ (69 : Nat) ≠ 55 ∧ (69 : Nat) ≠ 3 ∧ (69 : Nat) ≠ 66 ∧ (69 : Nat) ≠ 107; decide) hgr
    replace O_x := Ow.grown (enc := Key.cs) (m := 34) (hl := Key.cs_len) (h1 := Key.cs_one) O_x (Mo.blk 0 _ rfl) (.inl (by show (107 : Nat) ≠ 69; decide)) hgr
    replace O_w := Ow.grown (enc := Key.cs) (m := 34) (hl := Key.cs_len) (h1 := Key.cs_one) O_w (Mo.blk 0 _ rfl) (.inl (by show (107 : Nat) ≠ 69; decide)) hgr
    replace O_g := Ow.grown (enc := Key.cs) (m := 34) (hl := Key.cs_len) (h1 := Key.cs_one) O_g (Mo.blk 0 _ rfl) (.inl (by show (107 : Nat) ≠ 69; decide)) hgr
    replace O_t := Ow.grown (enc := Key.cs) (m := 34) (hl := Key.cs_len) (h1 := Key.cs_one) O_t (Mo.blk 0 _ rfl) (.inl (by show (107 : Nat) ≠ 69; decide)) hgr
    replace Z_ := Nat.le_trans Z_ hgr.size
    clear Mo hgr; try clear u
    replace M : Mm w v [⟨g13, #[.slice tA q.keys.length tc, .int .u64 q.next], 69⟩, ⟨g11, #[.slice gA q.keys.length gc, .int .u64 q.next], 69⟩, ⟨g10, #[.slice XA rks.length xc, .int .u64 rnx], 69⟩, ⟨g8, #[.slice wA q.keys.length wc, .int .u64 q.next], 69⟩, ⟨g7, (stepCs act s tm kid (.slice B ks.length b) next).toArray, 72⟩, ⟨g5, #[.slice RA rks.length rc, .int .u64 rnx], 69⟩] := M
    refine wpList_nil ?_
    refine in_n ?_
    refine then_n ?_
    refine wp_seq ?_
    refine wp_seq ?_
    refine wp_region_lit ?_
    refine list_val F (wn rfl) rfl rfl (.pointer (some ⟨g10, 0, none⟩)) (ex_fa _ _ _ rfl _ (F.e rfl) 0 rx_fa_69_0_0 ⟨g10, 0, none⟩ rfl) ?_; clear F a; intro a F
    refine list_val F (wn rfl) rfl rfl (.slice XA rks.length xc) (ex_load _ _ rfl _ (F.e rfl) _ (lv1 rx_one_55 (M.cell (i := 2) rfl (j := 0) rfl))) ?_; clear F a; intro a F
    refine list_val F (wn rfl) rfl rfl (.pointer (some ⟨g5, 0, none⟩)) (ex_fa _ _ _ rfl _ (F.e rfl) 0 rx_fa_69_0_0 ⟨g5, 0, none⟩ rfl) ?_; clear F a; intro a F
    refine list_val F (wn rfl) rfl rfl (.slice RA rks.length rc) (ex_load _ _ rfl _ (F.e rfl) _ (lv1 rx_one_55 (M.cell (i := 5) rfl (j := 0) rfl))) ?_; clear F a; intro a F
    refine list_do (wn rfl) (fun K hK => ?_)
    refine ow_call rfl rfl F 19 #[.slice XA rks.length xc, .slice RA rks.length rc] (ex_call 19 _ _ rfl rfl rx_ent_19 _ (map2 (F.e rfl) (F.e rfl))) (backKeys_any rks _ xc _ rc _ (Ow.rd (k := kKey) O_x).1 (Ow.rd (k := kKey) O_x).2.2 S_.rd S_.rc (by omega)) (fun e u hR => ?_)
    obtain ⟨he, hb⟩ := hR
    refine ⟨.bool true, he, ?_⟩; clear he F a; intro a F
    refine hK _ _ ?_
    clear hK K
    replace S_ := S_.below hb
    replace O_x := O_x.below hb
    replace O_w := O_w.below hb
    replace O_g := O_g.below hb
    replace O_t := O_t.below hb
    replace Z_ := Nat.le_trans Z_ hb.size
    replace M := M.below hb; clear hb; try clear v
    refine list_val F (wn rfl) rfl rfl (.bool false) (ex_not _ _ rfl _ (F.e rfl) _ rfl) ?_; clear F a; intro a F
    refine wpList_nil ?_
    refine then_n ?_
    refine wp_cond_false (F.e rfl) ?_
    refine wp_skip ?_
    refine then_n ?_
    refine wp_seq ?_
    refine wp_region_lit ?_
    refine list_val F (wn rfl) rfl rfl (.pointer (some ⟨g10, 0, none⟩)) (ex_fa _ _ _ rfl _ (F.e rfl) 0 rx_fa_69_0_0 ⟨g10, 0, none⟩ rfl) ?_; clear F a; intro a F
    refine list_val F (wn rfl) rfl rfl (.slice XA rks.length xc) (ex_load _ _ rfl _ (F.e rfl) _ (lv1 rx_one_55 (M.cell (i := 2) rfl (j := 0) rfl))) ?_; clear F a; intro a F
    refine list_do (wn rfl) (fun K hK => ?_)
    refine ow_call rfl rfl F 20 #[.slice XA rks.length xc] (ex_call 20 _ _ rfl rfl rx_ent_20 _ (map1 (F.e rfl))) (over_own O_x (by omega)) (fun e v hR => ?_)
    obtain ⟨he, gx, cx, hcx, hbx, hox, hgr⟩ := hR
    refine ⟨.tuple #[], he, ?_⟩; clear he F a; intro a F
    refine hK _ _ ?_
    clear hK K
    replace S_ := S_.over hcx hlx hbx hgr
    replace O_w := Ow_ap O_w (by have h_ := hxw _ hox; omega) hgr
    replace O_g := Ow_ap O_g (by have h_ := hxw _ hox; omega) hgr
    replace O_t := Ow_ap O_t (by have h_ := hxw _ hox; omega) hgr
    replace Z_ := Nat.le_trans Z_ hgr.size
    replace M := mm_grows M (base := w.heap.size) (Nat.le_refl _) ⟨.inl (by show (69 : Nat) ≠ 107; decide), .inl (by show (69 : Nat) ≠ 107; decide), .inl (by show (69 : Nat) ≠ 107; decide), .inl (by show (69 : Nat) ≠ 107; decide), .inl (by show (72 : Nat) ≠ 107; decide), .inl (by show (69 : Nat) ≠ 107; decide), trivial⟩ ⟨some gx, hgr, fun g e => by injection e with e; subst e; exact ⟨Nat.le_trans S_.lim.1 (Nat.le_trans hlx hbx), cx, hcx⟩⟩
    clear O_x hcx hgr; try clear u
    refine wpList_nil ?_
    refine then_n ?_
    refine wp_seq ?_
    refine wp_seq ?_
    refine wp_region_lit ?_
    refine list_val F (wn rfl) rfl rfl (.pointer (some ⟨g7, 0, none⟩)) (ex_fa _ _ _ rfl _ (F.e rfl) 0 rx_fa_72_0_0 ⟨g7, 0, none⟩ rfl) ?_; clear F a; intro a F
    refine list_val F (wn rfl) rfl rfl (.int .i64 act) (ex_load _ _ rfl _ (F.e rfl) _ (lv1 rx_one_3 (M.cell (i := 4) rfl (j := 0) rfl))) ?_; clear F a; intro a F
    refine list_val F (wn rfl) rfl rfl (.bool true) (ex_bin .geq _ _ _ _ rfl .i64 _ _ (F.e rfl) rfl _ (b_geq (decide_eq_true (by omega)))) ?_; clear F a; intro a F
    refine list_val F (wn rfl) rfl rfl (.bool true) (ex_move _ rfl _ (F.e rfl)) ?_; clear F a; intro a F
    refine list_val F (F.wants 154 true rfl (by kernel_rfl) rfl true rfl) rfl rfl (.pointer (some ⟨g7, 0, none⟩)) (ex_fa _ _ _ rfl _ (F.e rfl) 0 rx_fa_72_0_0 ⟨g7, 0, none⟩ rfl) ?_; clear F a; intro a F
    refine list_val F (F.wants 154 true rfl (by kernel_rfl) rfl true rfl) rfl rfl (.int .i64 act) (ex_load _ _ rfl _ (F.e rfl) _ (lv1 rx_one_3 (M.cell (i := 4) rfl (j := 0) rfl))) ?_; clear F a; intro a F
    refine list_val F (F.wants 154 true rfl (by kernel_rfl) rfl true rfl) rfl rfl (.bool true) (ex_bin .leq _ _ _ _ rfl .i64 _ _ (F.e rfl) rfl _ (b_leq (decide_eq_true (by omega)))) ?_; clear F a; intro a F
    refine list_val F (wn rfl) rfl rfl (.bool true) (ex_pick_t _ _ _ rfl (F.e rfl) _ (F.e rfl)) ?_; clear F a; intro a F
    refine wpList_nil ?_
    replace F : Fr 199 a [(0, .slice (some adt) l.length c), (2, .bool false), (3, .pointer (some ⟨g15, 0, none⟩)), (4, .pointer (some ⟨g17, 0, none⟩)), (5, .pointer (some ⟨g5, 0, none⟩)), (6, .int .i64 i), (7, .pointer (some ⟨g7, 0, none⟩)), (8, .pointer (some ⟨g8, 0, none⟩)), (9, .int .i64 n), (10, .pointer (some ⟨g10, 0, none⟩)), (11, .pointer (some ⟨g11, 0, none⟩)), (12, .int .i64 n), (13, .pointer (some ⟨g13, 0, none⟩)), (26, .bool true), (38, .int .i64 act), (39, .bool false), (50, .bool false), (79, .bool false), (93, .bool true), (147, .bool false), (158, .bool true)] := F.keep ⟨rfl, rfl, rfl, rfl, rfl, rfl, rfl, rfl, rfl, rfl, rfl, rfl, rfl, rfl, rfl, rfl, rfl, rfl, rfl, rfl, rfl, trivial⟩
    refine then_n ?_
    refine wp_cond_true (F.e rfl) ?_
    refine wp_seq ?_
    refine wp_seq ?_
    refine wp_region_lit ?_
    refine list_val F (wn rfl) rfl rfl (.agg #[.slice gA q.keys.length gc, .int .u64 q.next]) (ex_load _ _ rfl _ (F.e rfl) _ (lvr (cs := [.slice gA q.keys.length gc, .int .u64 q.next]) rx_row_69_2 (M.at (i := 1) rfl))) ?_; clear F a; intro a F
    refine list_val F (wn rfl) rfl rfl (.agg #[.slice wA q.keys.length wc, .int .u64 q.next]) (ex_load _ _ rfl _ (F.e rfl) _ (lvr (cs := [.slice wA q.keys.length wc, .int .u64 q.next]) rx_row_69_2 (M.at (i := 3) rfl))) ?_; clear F a; intro a F
    refine list_do (wn rfl) (fun K hK => ?_)
    refine ow_call rfl rfl F 21 #[.agg #[.slice gA q.keys.length gc, .int .u64 q.next], .agg #[.slice wA q.keys.length wc, .int .u64 q.next]] (ex_call 21 _ _ rfl rfl rx_ent_21 _ (map2 (F.e rfl) (F.e rfl))) (eq_q q _ _ _ _ _ (own_ro O_g rfl _) (own_ro O_w rfl _)) (fun e u hR => ?_)
    obtain ⟨he, hb⟩ := hR
    refine ⟨.bool true, he, ?_⟩; clear he F a; intro a F
    refine hK _ _ ?_
    clear hK K
    replace S_ := S_.below hb
    replace O_w := O_w.below hb
    replace O_g := O_g.below hb
    replace O_t := O_t.below hb
    replace Z_ := Nat.le_trans Z_ hb.size
    replace M := M.below hb; clear hb; try clear v
    refine list_val F (wn rfl) rfl rfl (.bool false) (ex_not _ _ rfl _ (F.e rfl) _ rfl) ?_; clear F a; intro a F
    refine list_val F (wn rfl) rfl rfl (.bool false) (ex_move _ rfl _ (F.e rfl)) ?_; clear F a; intro a F
    refine list_val F (F.wants 163 false rfl (by kernel_rfl) rfl true rfl) rfl rfl (.int .i64 n) (ex_move _ rfl _ (F.e rfl)) ?_; clear F a; intro a F
    refine list_do (F.wants 163 false rfl (by kernel_rfl) rfl true rfl) (fun K hK => ?_)
    refine ow_call rfl rfl F 22 #[.int .i64 n] (ex_call 22 _ _ rfl rfl rx_ent_22 _ (map1 (F.e rfl))) (num_any _ _) (fun e v hR => ?_)
    obtain ⟨he, hw⟩ := hR
    replace hw := hw.symm
    refine ⟨.int .i64 n, he, ?_⟩; clear he F a; intro a F
    replace hw := hw.symm; subst hw
    refine hK _ _ ?_
    clear hK K
    refine list_val F (F.wants 163 false rfl (by kernel_rfl) rfl true rfl) rfl rfl (.int .i64 n) (ex_move _ rfl _ (F.e rfl)) ?_; clear F a; intro a F
    refine list_val F (F.wants 163 false rfl (by kernel_rfl) rfl true rfl) rfl rfl (.bool false) (ex_bin .neq _ _ _ _ rfl .i64 _ _ (F.e rfl) (F.e rfl) _ (b_neq (by simp))) ?_; clear F a; intro a F
    refine list_val F (wn rfl) rfl rfl (.bool false) (ex_pick_f _ _ _ rfl (F.e rfl) _ (F.e rfl)) ?_; clear F a; intro a F
    refine wpList_nil ?_
    refine then_n ?_
    refine wp_cond_false (F.e rfl) ?_
    refine wp_skip ?_
    refine then_n ?_
    refine wp_seq ?_
    have hlwg := hlg; have hlgt := hlt
    by_cases hn0 : n = 0
    ·
     replace S_ := S_.setr O_w (Nat.le_trans S_.lim.1 hlw) (fun k hk => ⟨S_.fresh k (by have h_ := (Ow_lt O_w hk).1; omega), hwg k hk⟩) hlw (by omega) (Nat.le_trans hlt Z_)
     clear O_w
     refine wp_region_lit ?_
     refine list_val F (wn rfl) rfl rfl (.pointer (some ⟨g15, 0, none⟩)) (ex_move _ rfl _ (F.e rfl)) ?_; clear F a; intro a F
     refine list_val F (wn rfl) rfl rfl (.agg #[.slice gA q.keys.length gc, .int .u64 q.next]) (ex_load _ _ rfl _ (F.e rfl) _ (lvr (cs := [.slice gA q.keys.length gc, .int .u64 q.next]) rx_row_69_2 (M.at (i := 1) rfl))) ?_; clear F a; intro a F
     refine list_do (wn rfl) (fun K hK => ?_)
     refine ow_call rfl rfl F 23 #[.pointer (some ⟨g15, 0, none⟩), .agg #[.slice gA q.keys.length gc, .int .u64 q.next]] (ex_call 23 _ _ rfl rfl rx_ent_23 _ (map2 (F.e rfl) (F.e rfl))) (bookRing_any own w.heap.size bg g15 g17 tn wA wc q.keys _ S_ bg (by omega) gA gc q.keys q.next O_g bt hgt (by omega) Z_ (by omega) (by omega)) (fun e v hR => ?_)
     obtain ⟨he, own2, S2, ho2, ho⟩ := hR
     refine ⟨.tuple #[], he, ?_⟩; clear he F a; intro a F
     refine hK _ _ ?_
     clear hK K
     replace M := mm_onlyT M ho (Nat.le_refl _) M.bel.size (fun k hk => Ow_cells O_g hk) ⟨⟨by show (69 : Nat) ∉ [50, 55, 3]; decide, by show (69 : Nat) ≠ 107; decide⟩, ⟨by show (69 : Nat) ∉ [50, 55, 3]; decide, by show (69 : Nat) ≠ 107; decide⟩, ⟨by show (69 : Nat) ∉ [50, 55, 3]; decide, by show (69 : Nat) ≠ 107; decide⟩, ⟨by show (69 : Nat) ∉ [50, 55, 3]; decide, by show (69 : Nat) ≠ 107; decide⟩, ⟨by show (72 : Nat) ∉ [50, 55, 3]; decide, by show (72 : Nat) ≠ 107; decide⟩, ⟨by show (69 : Nat) ∉ [50, 55, 3]; decide, by show (69 : Nat) ≠ 107; decide⟩, trivial⟩
     replace O_t := Ow_only O_t ho (by decide) (fun k hk e => by have h1 := (Ow_lt O_t hk).1; have h2 := hgt k e; omega)
     replace Z_ := Nat.le_trans Z_ ho.size
     clear S_ O_g ho ho2; have S_ := S2; clear S2; try clear u
     refine wpList_nil ?_
     refine then_n ?_
     refine wp_seq ?_
     refine wp_seq ?_
     refine wp_region_lit ?_
     refine list_val F (wn rfl) rfl rfl (.agg #[.slice tA q.keys.length tc, .int .u64 q.next]) (ex_load _ _ rfl _ (F.e rfl) _ (lvr (cs := [.slice tA q.keys.length tc, .int .u64 q.next]) rx_row_69_2 (M.at (i := 0) rfl))) ?_; clear F a; intro a F
     refine list_val F (wn rfl) rfl rfl (.agg #[.slice wA q.keys.length wc, .int .u64 q.next]) (ex_load _ _ rfl _ (F.e rfl) _ (lvr (cs := [.slice wA q.keys.length wc, .int .u64 q.next]) rx_row_69_2 (M.at (i := 3) rfl))) ?_; clear F a; intro a F
     refine list_do (wn rfl) (fun K hK => ?_)
     refine ow_call rfl rfl F 21 #[.agg #[.slice tA q.keys.length tc, .int .u64 q.next], .agg #[.slice wA q.keys.length wc, .int .u64 q.next]] (ex_call 21 _ _ rfl rfl rx_ent_21 _ (map2 (F.e rfl) (F.e rfl))) (eq_q q _ _ _ _ _ (own_ro O_t rfl _) (own_ro (show OwnKeys _ _ (.slice wA q.keys.length wc) _ from S_.ring.1) rfl _)) (fun e u hR => ?_)
     obtain ⟨he, hb⟩ := hR
     refine ⟨.bool true, he, ?_⟩; clear he F a; intro a F
     refine hK _ _ ?_
     clear hK K
     replace S_ := S_.below hb
     replace O_t := O_t.below hb
     replace Z_ := Nat.le_trans Z_ hb.size
     replace M := M.below hb; clear hb; try clear v
     refine list_val F (wn rfl) rfl rfl (.bool false) (ex_not _ _ rfl _ (F.e rfl) _ rfl) ?_; clear F a; intro a F
     refine wpList_nil ?_
     refine then_n ?_
     refine wp_cond_false (F.e rfl) ?_
     refine wp_skip ?_
     refine then_n ?_
     refine wp_seq ?_
     refine wp_region_lit ?_
     refine list_val F (wn rfl) rfl rfl (.pointer (some ⟨g15, 0, none⟩)) (ex_move _ rfl _ (F.e rfl)) ?_; clear F a; intro a F
     refine list_val F (wn rfl) rfl rfl (.agg #[.slice tA q.keys.length tc, .int .u64 q.next]) (ex_load _ _ rfl _ (F.e rfl) _ (lvr (cs := [.slice tA q.keys.length tc, .int .u64 q.next]) rx_row_69_2 (M.at (i := 0) rfl))) ?_; clear F a; intro a F
     refine list_do (wn rfl) (fun K hK => ?_)
     refine ow_call rfl rfl F 23 #[.pointer (some ⟨g15, 0, none⟩), .agg #[.slice tA q.keys.length tc, .int .u64 q.next]] (ex_call 23 _ _ rfl rfl rx_ent_23 _ (map2 (F.e rfl) (F.e rfl))) (bookRing_any own2 w.heap.size bt g15 g17 (tn + 1) wA wc q.keys _ S_ bt (by omega) tA tc q.keys q.next O_t u.heap.size (fun k hk => (Ow_lt O_t hk).2) (by omega) (Nat.le_refl _) (by omega) (by omega)) (fun e v hR => ?_)
     obtain ⟨he, own3, S2, ho2, ho⟩ := hR
     refine ⟨.tuple #[], he, ?_⟩; clear he F a; intro a F
     refine hK _ _ ?_
     clear hK K
     replace M := mm_onlyT M ho (Nat.le_refl _) M.bel.size (fun k hk => Ow_cells O_t hk) ⟨⟨by show (69 : Nat) ∉ [50, 55, 3]; decide, by show (69 : Nat) ≠ 107; decide⟩, ⟨by show (69 : Nat) ∉ [50, 55, 3]; decide, by show (69 : Nat) ≠ 107; decide⟩, ⟨by show (69 : Nat) ∉ [50, 55, 3]; decide, by show (69 : Nat) ≠ 107; decide⟩, ⟨by show (69 : Nat) ∉ [50, 55, 3]; decide, by show (69 : Nat) ≠ 107; decide⟩, ⟨by show (72 : Nat) ∉ [50, 55, 3]; decide, by show (72 : Nat) ≠ 107; decide⟩, ⟨by show (69 : Nat) ∉ [50, 55, 3]; decide, by show (69 : Nat) ≠ 107; decide⟩, trivial⟩
     obtain ⟨lf, hlf⟩ : ∃ l, l = u.heap.size := ⟨_, rfl⟩
     rw [← hlf] at S2
     have hlf2 : bt ≤ lf := by rw [hlf]; exact Z_
     clear hlf
     clear S_ O_t ho ho2; have S_ := S2; clear S2 Z_; try clear u
     refine wpList_nil ?_
     refine then_n ?_
     refine wp_seq ?_
     refine wp_region_lit ?_
     refine list_val F (wn rfl) rfl rfl (.int .i64 n) (ex_move _ rfl _ (F.e rfl)) ?_; clear F a; intro a F
     refine list_val F (wn rfl) rfl rfl (.bool false) (ex_bin .neq _ _ _ _ rfl .i64 _ _ (F.e rfl) rfl _ (b_neq (by rw [hn0]; rfl))) ?_; clear F a; intro a F
     refine wpList_nil ?_
     refine then_n ?_
     refine wp_cond_false (F.e rfl) ?_
     refine wp_skip ?_
     refine then_n ?_
     refine wp_seq ?_
     refine wp_region_lit ?_
     refine list_val F (wn rfl) rfl rfl (.agg #[.slice wA q.keys.length wc, .int .u64 q.next]) (ex_load _ _ rfl _ (F.e rfl) _ (lvr (cs := [.slice wA q.keys.length wc, .int .u64 q.next]) rx_row_69_2 (M.at (i := 3) rfl))) ?_; clear F a; intro a F
     refine list_do (wn rfl) (fun K hK => ?_)
     refine ow_put F M rfl 69 _ _ rfl 5 _ #[.slice RA rks.length rc, .int .u64 rnx] _ rfl (F.e rfl) #[.slice wA q.keys.length wc, .int .u64 q.next] (F.e rfl) (sz_row (m := 2) rx_row_69_2) rfl (by simp [Value.oneCell']) ?_
     clear F a; have Mo := M; clear M; intro a u F M hgr
     refine hK _ _ ?_
     clear hK K
     replace S_ := S_.grown (Mo.blk 5 _ rfl) (by show (69 : Nat) ≠ 50 ∧ (69 : Nat) ≠ 55 ∧ (69 : Nat) ≠ 3 ∧ (69 : Nat) ≠ 66 ∧ (69 : Nat) ≠ 107; decide) hgr
     clear Mo hgr; try clear v
     replace M : Mm w u [⟨g13, #[.slice tA q.keys.length tc, .int .u64 q.next], 69⟩, ⟨g11, #[.slice gA q.keys.length gc, .int .u64 q.next], 69⟩, ⟨g10, #[.slice XA rks.length xc, .int .u64 rnx], 69⟩, ⟨g8, #[.slice wA q.keys.length wc, .int .u64 q.next], 69⟩, ⟨g7, (stepCs act s tm kid (.slice B ks.length b) next).toArray, 72⟩, ⟨g5, #[.slice wA q.keys.length wc, .int .u64 q.next], 69⟩] := M
     refine wpList_nil ?_
     refine then_n ?_
     refine wp_seq ?_
     refine wp_region_lit ?_
     refine list_val F (wn rfl) rfl rfl (.agg #[.slice wA q.keys.length wc, .int .u64 q.next]) (ex_load _ _ rfl _ (F.e rfl) _ (lvr (cs := [.slice wA q.keys.length wc, .int .u64 q.next]) rx_row_69_2 (M.at (i := 5) rfl))) ?_; clear F a; intro a F
     refine list_val F (wn rfl) rfl rfl (.pointer (some ⟨g7, 34, none⟩)) (ex_fa _ _ _ rfl _ (F.e rfl) 34 rx_fa_72_3_34 ⟨g7, 34, none⟩ rfl) ?_; clear F a; intro a F
     refine list_val F (wn rfl) rfl rfl (.int .u64 kid) (ex_load _ _ rfl _ (F.e rfl) _ (lv1 rx_one_67 (M.cell (i := 4) rfl (j := 34) step_a34))) ?_; clear F a; intro a F
     refine list_do (wn rfl) (fun K hK => ?_)
     refine ow_call rfl rfl F 17 #[.agg #[.slice wA q.keys.length wc, .int .u64 q.next], .int .u64 kid] (ex_call 17 _ _ rfl rfl rx_ent_17 _ (map2 (F.e rfl) (F.e rfl))) (asks_any q.keys wA wc q.next kid _ S_.rd S_.rc (by omega)) (fun e v hR => ?_)
     obtain ⟨he, hb⟩ := hR
     refine ⟨.bool true, he, ?_⟩; clear he F a; intro a F
     refine hK _ _ ?_
     clear hK K
     replace S_ := S_.below hb
     replace M := M.below hb; clear hb; try clear u
     refine list_val F (wn rfl) rfl rfl (.bool false) (ex_not _ _ rfl _ (F.e rfl) _ rfl) ?_; clear F a; intro a F
     refine list_val F (wn rfl) rfl rfl (.bool false) (ex_move _ rfl _ (F.e rfl)) ?_; clear F a; intro a F
     refine list_val F (F.wants 188 false rfl (by kernel_rfl) rfl true rfl) rfl rfl (.pointer (some ⟨g17, 0, none⟩)) (ex_move _ rfl _ (F.e rfl)) ?_; clear F a; intro a F
     refine list_val F (F.wants 188 false rfl (by kernel_rfl) rfl true rfl) rfl rfl (.agg #[.slice wA q.keys.length wc, .int .u64 q.next]) (ex_load _ _ rfl _ (F.e rfl) _ (lvr (cs := [.slice wA q.keys.length wc, .int .u64 q.next]) rx_row_69_2 (M.at (i := 5) rfl))) ?_; clear F a; intro a F
     refine list_do (F.wants 188 false rfl (by kernel_rfl) rfl true rfl) (fun K hK => ?_)
     refine ow_call rfl rfl F 24 #[.pointer (some ⟨g17, 0, none⟩), .agg #[.slice wA q.keys.length wc, .int .u64 q.next]] (ex_call 24 _ _ rfl rfl rx_ent_24 _ (map2 (F.e rfl) (F.e rfl))) (placed_any own3 w.heap.size lf g15 g17 (tn + 1 + 1) wA wc q.keys _ S_ q.next (by omega)) (fun e u hR => ?_)
     obtain ⟨he, S2, x_, ho, hx_⟩ := hR
     refine ⟨.bool true, he, ?_⟩; clear he F a; intro a F
     refine hK _ _ ?_
     clear hK K
     replace M := mm_onlyT M ho (Nat.le_refl _) M.bel.size (fun k hk => (hx_ k hk).2) ⟨⟨by show (69 : Nat) ∉ [66]; decide, by show (69 : Nat) ≠ 107; decide⟩, ⟨by show (69 : Nat) ∉ [66]; decide, by show (69 : Nat) ≠ 107; decide⟩, ⟨by show (69 : Nat) ∉ [66]; decide, by show (69 : Nat) ≠ 107; decide⟩, ⟨by show (69 : Nat) ∉ [66]; decide, by show (69 : Nat) ≠ 107; decide⟩, ⟨by show (72 : Nat) ∉ [66]; decide, by show (72 : Nat) ≠ 107; decide⟩, ⟨by show (69 : Nat) ∉ [66]; decide, by show (69 : Nat) ≠ 107; decide⟩, trivial⟩
     obtain ⟨lz, hlz⟩ : ∃ l, l = u.heap.size := ⟨_, rfl⟩
     rw [← hlz] at S2
     clear S_ ho hx_ hlz; have S_ := S2; clear S2; try clear v
     refine list_val F (F.wants 188 false rfl (by kernel_rfl) rfl true rfl) rfl rfl (.bool false) (ex_not _ _ rfl _ (F.e rfl) _ rfl) ?_; clear F a; intro a F
     refine list_val F (wn rfl) rfl rfl (.bool false) (ex_pick_f _ _ _ rfl (F.e rfl) _ (F.e rfl)) ?_; clear F a; intro a F
     refine wpList_nil ?_
     refine then_n ?_
     refine wp_cond_false (F.e rfl) ?_
     refine wp_skip ?_
     refine in_n ?_
     refine then_n ?_
     refine wp_region_lit ?_
     refine list_val F (wn rfl) rfl rfl (.int .i64 i) (ex_move _ rfl _ (F.e rfl)) ?_; clear F a; intro a F
     refine list_val F (wn rfl) rfl rfl (.int .i64 (i + 1)) (ex_bin .add _ _ _ _ rfl .i64 _ _ (F.e rfl) rfl _ (b_add (w_i64 (by omega) (by omega)))) ?_; clear F a; intro a F
     refine list_val F (wn rfl) rfl rfl (.int .i64 (i + 1)) (ex_assign _ rfl _ (F.e rfl)) ?_; clear F a; intro a F
     refine wpList_nil ?_
     refine then_n ?_
     exact ⟨l.length - (i + 1), by omega, (i + 1), own3, lz, (tn + 1 + 1), wA, wc, q.keys, q.next, F.keep ⟨rfl, rfl, rfl, rfl, rfl, rfl, trivial⟩, (by refine M.pick' [5] _ ?_ (by decide); exact ⟨rfl, trivial⟩), S_, (by omega), (by omega), (by omega), (by omega), (by omega), (by omega)⟩
    refine wp_region_lit ?_
    refine list_val F (wn rfl) rfl rfl (.pointer (some ⟨g15, 0, none⟩)) (ex_move _ rfl _ (F.e rfl)) ?_; clear F a; intro a F
    refine list_val F (wn rfl) rfl rfl (.agg #[.slice gA q.keys.length gc, .int .u64 q.next]) (ex_load _ _ rfl _ (F.e rfl) _ (lvr (cs := [.slice gA q.keys.length gc, .int .u64 q.next]) rx_row_69_2 (M.at (i := 1) rfl))) ?_; clear F a; intro a F
    refine list_do (wn rfl) (fun K hK => ?_)
    refine ow_call rfl rfl F 23 #[.pointer (some ⟨g15, 0, none⟩), .agg #[.slice gA q.keys.length gc, .int .u64 q.next]] (ex_call 23 _ _ rfl rfl rx_ent_23 _ (map2 (F.e rfl) (F.e rfl))) (bookRing_any own w.heap.size lim g15 g17 tn RA rc rks _ S_ bg (by omega) gA gc q.keys q.next O_g bt hgt (by omega) Z_ (by omega) (by omega)) (fun e v hR => ?_)
    obtain ⟨he, own2, S2, ho2, ho⟩ := hR
    refine ⟨.tuple #[], he, ?_⟩; clear he F a; intro a F
    refine hK _ _ ?_
    clear hK K
    replace M := mm_onlyT M ho (Nat.le_refl _) M.bel.size (fun k hk => Ow_cells O_g hk) ⟨⟨by show (69 : Nat) ∉ [50, 55, 3]; decide, by show (69 : Nat) ≠ 107; decide⟩, ⟨by show (69 : Nat) ∉ [50, 55, 3]; decide, by show (69 : Nat) ≠ 107; decide⟩, ⟨by show (69 : Nat) ∉ [50, 55, 3]; decide, by show (69 : Nat) ≠ 107; decide⟩, ⟨by show (69 : Nat) ∉ [50, 55, 3]; decide, by show (69 : Nat) ≠ 107; decide⟩, ⟨by show (72 : Nat) ∉ [50, 55, 3]; decide, by show (72 : Nat) ≠ 107; decide⟩, ⟨by show (69 : Nat) ∉ [50, 55, 3]; decide, by show (69 : Nat) ≠ 107; decide⟩, trivial⟩
    replace O_w := Ow_only O_w ho (by decide) (fun k hk e => by have h1 := hwg k hk; have h2 := (Ow_lt O_g e).1; omega)
    replace O_t := Ow_only O_t ho (by decide) (fun k hk e => by have h1 := (Ow_lt O_t hk).1; have h2 := hgt k e; omega)
    replace Z_ := Nat.le_trans Z_ ho.size
    clear S_ O_g ho ho2; have S_ := S2; clear S2; try clear u
    refine wpList_nil ?_
    refine then_n ?_
    refine wp_seq ?_
    refine wp_seq ?_
    refine wp_region_lit ?_
    refine list_val F (wn rfl) rfl rfl (.agg #[.slice tA q.keys.length tc, .int .u64 q.next]) (ex_load _ _ rfl _ (F.e rfl) _ (lvr (cs := [.slice tA q.keys.length tc, .int .u64 q.next]) rx_row_69_2 (M.at (i := 0) rfl))) ?_; clear F a; intro a F
    refine list_val F (wn rfl) rfl rfl (.agg #[.slice wA q.keys.length wc, .int .u64 q.next]) (ex_load _ _ rfl _ (F.e rfl) _ (lvr (cs := [.slice wA q.keys.length wc, .int .u64 q.next]) rx_row_69_2 (M.at (i := 3) rfl))) ?_; clear F a; intro a F
    refine list_do (wn rfl) (fun K hK => ?_)
    refine ow_call rfl rfl F 21 #[.agg #[.slice tA q.keys.length tc, .int .u64 q.next], .agg #[.slice wA q.keys.length wc, .int .u64 q.next]] (ex_call 21 _ _ rfl rfl rx_ent_21 _ (map2 (F.e rfl) (F.e rfl))) (eq_q q _ _ _ _ _ (own_ro O_t rfl _) (own_ro O_w rfl _)) (fun e u hR => ?_)
    obtain ⟨he, hb⟩ := hR
    refine ⟨.bool true, he, ?_⟩; clear he F a; intro a F
    refine hK _ _ ?_
    clear hK K
    replace S_ := S_.below hb
    replace O_w := O_w.below hb
    replace O_t := O_t.below hb
    replace Z_ := Nat.le_trans Z_ hb.size
    replace M := M.below hb; clear hb; try clear v
    refine list_val F (wn rfl) rfl rfl (.bool false) (ex_not _ _ rfl _ (F.e rfl) _ rfl) ?_; clear F a; intro a F
    refine wpList_nil ?_
    refine then_n ?_
    refine wp_cond_false (F.e rfl) ?_
    refine wp_skip ?_
    refine then_n ?_
    refine wp_seq ?_
    refine wp_region_lit ?_
    refine list_val F (wn rfl) rfl rfl (.pointer (some ⟨g15, 0, none⟩)) (ex_move _ rfl _ (F.e rfl)) ?_; clear F a; intro a F
    refine list_val F (wn rfl) rfl rfl (.agg #[.slice tA q.keys.length tc, .int .u64 q.next]) (ex_load _ _ rfl _ (F.e rfl) _ (lvr (cs := [.slice tA q.keys.length tc, .int .u64 q.next]) rx_row_69_2 (M.at (i := 0) rfl))) ?_; clear F a; intro a F
    refine list_do (wn rfl) (fun K hK => ?_)
    refine ow_call rfl rfl F 23 #[.pointer (some ⟨g15, 0, none⟩), .agg #[.slice tA q.keys.length tc, .int .u64 q.next]] (ex_call 23 _ _ rfl rfl rx_ent_23 _ (map2 (F.e rfl) (F.e rfl))) (bookRing_any own2 w.heap.size bt g15 g17 (tn + 1) RA rc rks _ S_ bt (by omega) tA tc q.keys q.next O_t u.heap.size (fun k hk => (Ow_lt O_t hk).2) (by omega) (Nat.le_refl _) (by omega) (by omega)) (fun e v hR => ?_)
    obtain ⟨he, own3, S2, ho2, ho⟩ := hR
    refine ⟨.tuple #[], he, ?_⟩; clear he F a; intro a F
    refine hK _ _ ?_
    clear hK K
    replace M := mm_onlyT M ho (Nat.le_refl _) M.bel.size (fun k hk => Ow_cells O_t hk) ⟨⟨by show (69 : Nat) ∉ [50, 55, 3]; decide, by show (69 : Nat) ≠ 107; decide⟩, ⟨by show (69 : Nat) ∉ [50, 55, 3]; decide, by show (69 : Nat) ≠ 107; decide⟩, ⟨by show (69 : Nat) ∉ [50, 55, 3]; decide, by show (69 : Nat) ≠ 107; decide⟩, ⟨by show (69 : Nat) ∉ [50, 55, 3]; decide, by show (69 : Nat) ≠ 107; decide⟩, ⟨by show (72 : Nat) ∉ [50, 55, 3]; decide, by show (72 : Nat) ≠ 107; decide⟩, ⟨by show (69 : Nat) ∉ [50, 55, 3]; decide, by show (69 : Nat) ≠ 107; decide⟩, trivial⟩
    replace O_w := Ow_only O_w ho (by decide) (fun k hk e => by have h1 := hwg k hk; have h2 := (Ow_lt O_t e).1; omega)
    obtain ⟨lf, hlf⟩ : ∃ l, l = u.heap.size := ⟨_, rfl⟩
    rw [← hlf] at S2
    have hlf2 : bt ≤ lf := by rw [hlf]; exact Z_
    clear hlf
    clear S_ O_t ho ho2; have S_ := S2; clear S2 Z_; try clear u
    refine wpList_nil ?_
    refine then_n ?_
    refine wp_seq ?_
    refine wp_region_lit ?_
    refine list_val F (wn rfl) rfl rfl (.int .i64 n) (ex_move _ rfl _ (F.e rfl)) ?_; clear F a; intro a F
    refine list_val F (wn rfl) rfl rfl (.bool true) (ex_bin .neq _ _ _ _ rfl .i64 _ _ (F.e rfl) rfl _ (b_neq (bne_iff_ne.2 hn0))) ?_; clear F a; intro a F
    refine wpList_nil ?_
    replace F : Fr 199 a [(0, .slice (some adt) l.length c), (2, .bool false), (3, .pointer (some ⟨g15, 0, none⟩)), (4, .pointer (some ⟨g17, 0, none⟩)), (5, .pointer (some ⟨g5, 0, none⟩)), (6, .int .i64 i), (7, .pointer (some ⟨g7, 0, none⟩)), (8, .pointer (some ⟨g8, 0, none⟩)), (9, .int .i64 n), (10, .pointer (some ⟨g10, 0, none⟩)), (11, .pointer (some ⟨g11, 0, none⟩)), (12, .int .i64 n), (13, .pointer (some ⟨g13, 0, none⟩)), (26, .bool true), (38, .int .i64 act), (39, .bool false), (50, .bool false), (79, .bool false), (93, .bool true), (147, .bool false), (158, .bool true), (168, .bool false), (175, .bool false), (180, .bool true)] := F.keep ⟨rfl, rfl, rfl, rfl, rfl, rfl, rfl, rfl, rfl, rfl, rfl, rfl, rfl, rfl, rfl, rfl, rfl, rfl, rfl, rfl, rfl, rfl, rfl, rfl, trivial⟩
    refine then_n ?_
    refine wp_cond_true (F.e rfl) ?_
    refine wp_region_lit ?_
    refine list_val F (wn rfl) rfl rfl (.agg #[.slice RA rks.length rc, .int .u64 rnx]) (ex_load _ _ rfl _ (F.e rfl) _ (lvr (cs := [.slice RA rks.length rc, .int .u64 rnx]) rx_row_69_2 (M.at (i := 5) rfl))) ?_; clear F a; intro a F
    refine list_do (wn rfl) (fun K hK => ?_)
    refine ow_put F M rfl 69 _ _ rfl 3 _ #[.slice wA q.keys.length wc, .int .u64 q.next] _ rfl (F.e rfl) #[.slice RA rks.length rc, .int .u64 rnx] (F.e rfl) (sz_row (m := 2) rx_row_69_2) rfl (by simp [Value.oneCell']) ?_
    clear F a; have Mo := M; clear M; intro a u F M hgr
    refine hK _ _ ?_
    clear hK K
    replace S_ := S_.grown (Mo.blk 3 _ rfl) (by show (69 : Nat) ≠ 50 ∧ (69 : Nat) ≠ 55 ∧ (69 : Nat) ≠ 3 ∧ (69 : Nat) ≠ 66 ∧ (69 : Nat) ≠ 107; decide) hgr
    replace O_w := Ow.grown (enc := Key.cs) (m := 34) (hl := Key.cs_len) (h1 := Key.cs_one) O_w (Mo.blk 3 _ rfl) (.inl (by show (107 : Nat) ≠ 69; decide)) hgr
    clear Mo hgr; try clear v
    replace M : Mm w u [⟨g13, #[.slice tA q.keys.length tc, .int .u64 q.next], 69⟩, ⟨g11, #[.slice gA q.keys.length gc, .int .u64 q.next], 69⟩, ⟨g10, #[.slice XA rks.length xc, .int .u64 rnx], 69⟩, ⟨g8, #[.slice RA rks.length rc, .int .u64 rnx], 69⟩, ⟨g7, (stepCs act s tm kid (.slice B ks.length b) next).toArray, 72⟩, ⟨g5, #[.slice RA rks.length rc, .int .u64 rnx], 69⟩] := M
    refine wpList_nil ?_
    refine then_n ?_
    refine wp_seq ?_
    refine wp_region_lit ?_
    refine list_val F (wn rfl) rfl rfl (.agg #[.slice RA rks.length rc, .int .u64 rnx]) (ex_load _ _ rfl _ (F.e rfl) _ (lvr (cs := [.slice RA rks.length rc, .int .u64 rnx]) rx_row_69_2 (M.at (i := 3) rfl))) ?_; clear F a; intro a F
    refine list_do (wn rfl) (fun K hK => ?_)
    refine ow_put F M rfl 69 _ _ rfl 5 _ #[.slice RA rks.length rc, .int .u64 rnx] _ rfl (F.e rfl) #[.slice RA rks.length rc, .int .u64 rnx] (F.e rfl) (sz_row (m := 2) rx_row_69_2) rfl (by simp [Value.oneCell']) ?_
    clear F a; have Mo := M; clear M; intro a v F M hgr
    refine hK _ _ ?_
    clear hK K
    replace S_ := S_.grown (Mo.blk 5 _ rfl) (by show (69 : Nat) ≠ 50 ∧ (69 : Nat) ≠ 55 ∧ (69 : Nat) ≠ 3 ∧ (69 : Nat) ≠ 66 ∧ (69 : Nat) ≠ 107; decide) hgr
    replace O_w := Ow.grown (enc := Key.cs) (m := 34) (hl := Key.cs_len) (h1 := Key.cs_one) O_w (Mo.blk 5 _ rfl) (.inl (by show (107 : Nat) ≠ 69; decide)) hgr
    clear Mo hgr; try clear u
    replace M : Mm w v [⟨g13, #[.slice tA q.keys.length tc, .int .u64 q.next], 69⟩, ⟨g11, #[.slice gA q.keys.length gc, .int .u64 q.next], 69⟩, ⟨g10, #[.slice XA rks.length xc, .int .u64 rnx], 69⟩, ⟨g8, #[.slice RA rks.length rc, .int .u64 rnx], 69⟩, ⟨g7, (stepCs act s tm kid (.slice B ks.length b) next).toArray, 72⟩, ⟨g5, #[.slice RA rks.length rc, .int .u64 rnx], 69⟩] := M
    refine wpList_nil ?_
    refine then_n ?_
    refine wp_seq ?_
    clear O_w
    refine wp_region_lit ?_
    refine list_val F (wn rfl) rfl rfl (.agg #[.slice RA rks.length rc, .int .u64 rnx]) (ex_load _ _ rfl _ (F.e rfl) _ (lvr (cs := [.slice RA rks.length rc, .int .u64 rnx]) rx_row_69_2 (M.at (i := 5) rfl))) ?_; clear F a; intro a F
    refine list_val F (wn rfl) rfl rfl (.pointer (some ⟨g7, 34, none⟩)) (ex_fa _ _ _ rfl _ (F.e rfl) 34 rx_fa_72_3_34 ⟨g7, 34, none⟩ rfl) ?_; clear F a; intro a F
    refine list_val F (wn rfl) rfl rfl (.int .u64 kid) (ex_load _ _ rfl _ (F.e rfl) _ (lv1 rx_one_67 (M.cell (i := 4) rfl (j := 34) step_a34))) ?_; clear F a; intro a F
    refine list_do (wn rfl) (fun K hK => ?_)
    refine ow_call rfl rfl F 17 #[.agg #[.slice RA rks.length rc, .int .u64 rnx], .int .u64 kid] (ex_call 17 _ _ rfl rfl rx_ent_17 _ (map2 (F.e rfl) (F.e rfl))) (asks_any rks RA rc rnx kid _ S_.rd S_.rc (by omega)) (fun e u hR => ?_)
    obtain ⟨he, hb⟩ := hR
    refine ⟨.bool true, he, ?_⟩; clear he F a; intro a F
    refine hK _ _ ?_
    clear hK K
    replace S_ := S_.below hb
    replace M := M.below hb; clear hb; try clear v
    refine list_val F (wn rfl) rfl rfl (.bool false) (ex_not _ _ rfl _ (F.e rfl) _ rfl) ?_; clear F a; intro a F
    refine list_val F (wn rfl) rfl rfl (.bool false) (ex_move _ rfl _ (F.e rfl)) ?_; clear F a; intro a F
    refine list_val F (F.wants 188 false rfl (by kernel_rfl) rfl true rfl) rfl rfl (.pointer (some ⟨g17, 0, none⟩)) (ex_move _ rfl _ (F.e rfl)) ?_; clear F a; intro a F
    refine list_val F (F.wants 188 false rfl (by kernel_rfl) rfl true rfl) rfl rfl (.agg #[.slice RA rks.length rc, .int .u64 rnx]) (ex_load _ _ rfl _ (F.e rfl) _ (lvr (cs := [.slice RA rks.length rc, .int .u64 rnx]) rx_row_69_2 (M.at (i := 5) rfl))) ?_; clear F a; intro a F
    refine list_do (F.wants 188 false rfl (by kernel_rfl) rfl true rfl) (fun K hK => ?_)
    refine ow_call rfl rfl F 24 #[.pointer (some ⟨g17, 0, none⟩), .agg #[.slice RA rks.length rc, .int .u64 rnx]] (ex_call 24 _ _ rfl rfl rx_ent_24 _ (map2 (F.e rfl) (F.e rfl))) (placed_any own3 w.heap.size lf g15 g17 (tn + 1 + 1) RA rc rks _ S_ rnx (by omega)) (fun e v hR => ?_)
    obtain ⟨he, S2, x_, ho, hx_⟩ := hR
    refine ⟨.bool true, he, ?_⟩; clear he F a; intro a F
    refine hK _ _ ?_
    clear hK K
    replace M := mm_onlyT M ho (Nat.le_refl _) M.bel.size (fun k hk => (hx_ k hk).2) ⟨⟨by show (69 : Nat) ∉ [66]; decide, by show (69 : Nat) ≠ 107; decide⟩, ⟨by show (69 : Nat) ∉ [66]; decide, by show (69 : Nat) ≠ 107; decide⟩, ⟨by show (69 : Nat) ∉ [66]; decide, by show (69 : Nat) ≠ 107; decide⟩, ⟨by show (69 : Nat) ∉ [66]; decide, by show (69 : Nat) ≠ 107; decide⟩, ⟨by show (72 : Nat) ∉ [66]; decide, by show (72 : Nat) ≠ 107; decide⟩, ⟨by show (69 : Nat) ∉ [66]; decide, by show (69 : Nat) ≠ 107; decide⟩, trivial⟩
    obtain ⟨lz, hlz⟩ : ∃ l, l = v.heap.size := ⟨_, rfl⟩
    rw [← hlz] at S2
    clear S_ ho hx_ hlz; have S_ := S2; clear S2; try clear u
    refine list_val F (F.wants 188 false rfl (by kernel_rfl) rfl true rfl) rfl rfl (.bool false) (ex_not _ _ rfl _ (F.e rfl) _ rfl) ?_; clear F a; intro a F
    refine list_val F (wn rfl) rfl rfl (.bool false) (ex_pick_f _ _ _ rfl (F.e rfl) _ (F.e rfl)) ?_; clear F a; intro a F
    refine wpList_nil ?_
    refine then_n ?_
    refine wp_cond_false (F.e rfl) ?_
    refine wp_skip ?_
    refine in_n ?_
    refine then_n ?_
    refine wp_region_lit ?_
    refine list_val F (wn rfl) rfl rfl (.int .i64 i) (ex_move _ rfl _ (F.e rfl)) ?_; clear F a; intro a F
    refine list_val F (wn rfl) rfl rfl (.int .i64 (i + 1)) (ex_bin .add _ _ _ _ rfl .i64 _ _ (F.e rfl) rfl _ (b_add (w_i64 (by omega) (by omega)))) ?_; clear F a; intro a F
    refine list_val F (wn rfl) rfl rfl (.int .i64 (i + 1)) (ex_assign _ rfl _ (F.e rfl)) ?_; clear F a; intro a F
    refine wpList_nil ?_
    refine then_n ?_
    exact ⟨l.length - (i + 1), by omega, (i + 1), own3, lz, (tn + 1 + 1), RA, rc, rks, rnx, F.keep ⟨rfl, rfl, rfl, rfl, rfl, rfl, trivial⟩, (by refine M.pick' [5] _ ?_ (by decide); exact ⟨rfl, trivial⟩), S_, (by omega), (by omega), (by omega), (by omega), (by omega), (by omega)⟩
   refine wp_region_lit ?_
   refine list_val F (wn rfl) rfl rfl (.bool false) (ex_bin .eql _ _ _ _ rfl .i64 _ _ (F.e rfl) rfl _ (b_eql (beq_eq_false_iff_ne.2 ha4))) ?_; clear F a; intro a F
   refine list_val F (wn rfl) rfl rfl (.bool false) (ex_assign _ rfl _ (F.e rfl)) ?_; clear F a; intro a F
   refine wpList_nil ?_
   refine then_n ?_
   refine wp_cond_false (F.e rfl) ?_
   refine wp_seq ?_
   by_cases ha5 : act = 5
   ·
    refine wp_region_lit ?_
    refine list_val F (wn rfl) rfl rfl (.bool true) (ex_bin .eql _ _ _ _ rfl .i64 _ _ (F.e rfl) rfl _ (b_eql (by rw [ha5]; rfl))) ?_; clear F a; intro a F
    refine list_val F (wn rfl) rfl rfl (.bool true) (ex_assign _ rfl _ (F.e rfl)) ?_; clear F a; intro a F
    refine wpList_nil ?_
    refine then_n ?_
    refine wp_cond_true (F.e rfl) ?_
    refine wp_seq ?_
    refine wp_region_lit ?_
    refine list_val F (wn rfl) rfl rfl (.agg #[.slice RA rks.length rc, .int .u64 rnx]) (ex_load _ _ rfl _ (F.e rfl) _ (lvr (cs := [.slice RA rks.length rc, .int .u64 rnx]) rx_row_69_2 (M.at (i := 5) rfl))) ?_; clear F a; intro a F
    refine list_val F (wn rfl) rfl rfl (.pointer (some ⟨g7, 34, none⟩)) (ex_fa _ _ _ rfl _ (F.e rfl) 34 rx_fa_72_3_34 ⟨g7, 34, none⟩ rfl) ?_; clear F a; intro a F
    refine list_val F (wn rfl) rfl rfl (.int .u64 kid) (ex_load _ _ rfl _ (F.e rfl) _ (lv1 rx_one_67 (M.cell (i := 4) rfl (j := 34) step_a34))) ?_; clear F a; intro a F
    refine list_do (wn rfl) (fun K hK => ?_)
    refine ow_call rfl rfl F 17 #[.agg #[.slice RA rks.length rc, .int .u64 rnx], .int .u64 kid] (ex_call 17 _ _ rfl rfl rx_ent_17 _ (map2 (F.e rfl) (F.e rfl))) (asks_any rks RA rc rnx kid _ S_.rd S_.rc (by omega)) (fun e u hR => ?_)
    obtain ⟨he, hb⟩ := hR
    refine ⟨.bool true, he, ?_⟩; clear he F a; intro a F
    refine hK _ _ ?_
    clear hK K
    replace S_ := S_.below hb
    replace O_x := O_x.below hb
    replace M := M.below hb; clear hb; try clear v
    refine list_val F (wn rfl) rfl rfl (.bool false) (ex_not _ _ rfl _ (F.e rfl) _ rfl) ?_; clear F a; intro a F
    refine wpList_nil ?_
    refine then_n ?_
    refine wp_cond_false (F.e rfl) ?_
    refine wp_skip ?_
    refine in_n ?_
    refine then_n ?_
    refine wp_seq ?_
    refine wp_seq ?_
    refine wp_region_lit ?_
    refine list_val F (wn rfl) rfl rfl (.pointer (some ⟨g10, 0, none⟩)) (ex_fa _ _ _ rfl _ (F.e rfl) 0 rx_fa_69_0_0 ⟨g10, 0, none⟩ rfl) ?_; clear F a; intro a F
    refine list_val F (wn rfl) rfl rfl (.slice XA rks.length xc) (ex_load _ _ rfl _ (F.e rfl) _ (lv1 rx_one_55 (M.cell (i := 2) rfl (j := 0) rfl))) ?_; clear F a; intro a F
    refine list_val F (wn rfl) rfl rfl (.pointer (some ⟨g5, 0, none⟩)) (ex_fa _ _ _ rfl _ (F.e rfl) 0 rx_fa_69_0_0 ⟨g5, 0, none⟩ rfl) ?_; clear F a; intro a F
    refine list_val F (wn rfl) rfl rfl (.slice RA rks.length rc) (ex_load _ _ rfl _ (F.e rfl) _ (lv1 rx_one_55 (M.cell (i := 5) rfl (j := 0) rfl))) ?_; clear F a; intro a F
    refine list_do (wn rfl) (fun K hK => ?_)
    refine ow_call rfl rfl F 19 #[.slice XA rks.length xc, .slice RA rks.length rc] (ex_call 19 _ _ rfl rfl rx_ent_19 _ (map2 (F.e rfl) (F.e rfl))) (backKeys_any rks _ xc _ rc _ (Ow.rd (k := kKey) O_x).1 (Ow.rd (k := kKey) O_x).2.2 S_.rd S_.rc (by omega)) (fun e v hR => ?_)
    obtain ⟨he, hb⟩ := hR
    refine ⟨.bool true, he, ?_⟩; clear he F a; intro a F
    refine hK _ _ ?_
    clear hK K
    replace S_ := S_.below hb
    replace O_x := O_x.below hb
    replace M := M.below hb; clear hb; try clear u
    refine list_val F (wn rfl) rfl rfl (.bool false) (ex_not _ _ rfl _ (F.e rfl) _ rfl) ?_; clear F a; intro a F
    refine wpList_nil ?_
    refine then_n ?_
    refine wp_cond_false (F.e rfl) ?_
    refine wp_skip ?_
    refine then_n ?_
    refine wp_seq ?_
    refine wp_region_lit ?_
    refine list_val F (wn rfl) rfl rfl (.pointer (some ⟨g10, 0, none⟩)) (ex_fa _ _ _ rfl _ (F.e rfl) 0 rx_fa_69_0_0 ⟨g10, 0, none⟩ rfl) ?_; clear F a; intro a F
    refine list_val F (wn rfl) rfl rfl (.slice XA rks.length xc) (ex_load _ _ rfl _ (F.e rfl) _ (lv1 rx_one_55 (M.cell (i := 2) rfl (j := 0) rfl))) ?_; clear F a; intro a F
    refine list_do (wn rfl) (fun K hK => ?_)
    refine ow_call rfl rfl F 20 #[.slice XA rks.length xc] (ex_call 20 _ _ rfl rfl rx_ent_20 _ (map1 (F.e rfl))) (over_own O_x (by omega)) (fun e u hR => ?_)
    obtain ⟨he, gx, cx, hcx, hbx, hox, hgr⟩ := hR
    refine ⟨.tuple #[], he, ?_⟩; clear he F a; intro a F
    refine hK _ _ ?_
    clear hK K
    replace S_ := S_.over hcx hlx hbx hgr
    replace M := mm_grows M (base := w.heap.size) (Nat.le_refl _) ⟨.inl (by show (69 : Nat) ≠ 107; decide), .inl (by show (69 : Nat) ≠ 107; decide), .inl (by show (69 : Nat) ≠ 107; decide), .inl (by show (69 : Nat) ≠ 107; decide), .inl (by show (72 : Nat) ≠ 107; decide), .inl (by show (69 : Nat) ≠ 107; decide), trivial⟩ ⟨some gx, hgr, fun g e => by injection e with e; subst e; exact ⟨Nat.le_trans S_.lim.1 (Nat.le_trans hlx hbx), cx, hcx⟩⟩
    clear O_x hcx hgr; try clear v
    refine wpList_nil ?_
    refine then_n ?_
    refine wp_seq ?_
    refine wp_seq ?_
    refine wp_region_lit ?_
    refine list_val F (wn rfl) rfl rfl (.pointer (some ⟨g7, 0, none⟩)) (ex_fa _ _ _ rfl _ (F.e rfl) 0 rx_fa_72_0_0 ⟨g7, 0, none⟩ rfl) ?_; clear F a; intro a F
    refine list_val F (wn rfl) rfl rfl (.int .i64 act) (ex_load _ _ rfl _ (F.e rfl) _ (lv1 rx_one_3 (M.cell (i := 4) rfl (j := 0) rfl))) ?_; clear F a; intro a F
    refine list_val F (wn rfl) rfl rfl (.bool true) (ex_bin .geq _ _ _ _ rfl .i64 _ _ (F.e rfl) rfl _ (b_geq (decide_eq_true (by omega)))) ?_; clear F a; intro a F
    refine list_val F (wn rfl) rfl rfl (.bool true) (ex_move _ rfl _ (F.e rfl)) ?_; clear F a; intro a F
    refine list_val F (F.wants 154 true rfl (by kernel_rfl) rfl true rfl) rfl rfl (.pointer (some ⟨g7, 0, none⟩)) (ex_fa _ _ _ rfl _ (F.e rfl) 0 rx_fa_72_0_0 ⟨g7, 0, none⟩ rfl) ?_; clear F a; intro a F
    refine list_val F (F.wants 154 true rfl (by kernel_rfl) rfl true rfl) rfl rfl (.int .i64 act) (ex_load _ _ rfl _ (F.e rfl) _ (lv1 rx_one_3 (M.cell (i := 4) rfl (j := 0) rfl))) ?_; clear F a; intro a F
    refine list_val F (F.wants 154 true rfl (by kernel_rfl) rfl true rfl) rfl rfl (.bool false) (ex_bin .leq _ _ _ _ rfl .i64 _ _ (F.e rfl) rfl _ (b_leq (decide_eq_false (by omega)))) ?_; clear F a; intro a F
    refine list_val F (wn rfl) rfl rfl (.bool false) (ex_pick_t _ _ _ rfl (F.e rfl) _ (F.e rfl)) ?_; clear F a; intro a F
    refine wpList_nil ?_
    replace F : Fr 199 a [(0, .slice (some adt) l.length c), (2, .bool false), (3, .pointer (some ⟨g15, 0, none⟩)), (4, .pointer (some ⟨g17, 0, none⟩)), (5, .pointer (some ⟨g5, 0, none⟩)), (6, .int .i64 i), (7, .pointer (some ⟨g7, 0, none⟩)), (8, .pointer (some ⟨g8, 0, none⟩)), (9, .int .i64 0), (10, .pointer (some ⟨g10, 0, none⟩)), (11, .pointer (some ⟨g11, 0, none⟩)), (12, .int .i64 0), (13, .pointer (some ⟨g13, 0, none⟩)), (26, .bool true), (38, .int .i64 act), (39, .bool false), (50, .bool false), (79, .bool false), (93, .bool false), (122, .bool true), (128, .bool false), (147, .bool false), (158, .bool false)] := F.keep ⟨rfl, rfl, rfl, rfl, rfl, rfl, rfl, rfl, rfl, rfl, rfl, rfl, rfl, rfl, rfl, rfl, rfl, rfl, rfl, rfl, rfl, rfl, rfl, trivial⟩
    refine then_n ?_
    refine wp_cond_false (F.e rfl) ?_
    refine wp_skip ?_
    refine then_n ?_
    refine wp_seq ?_
    refine wp_region_lit ?_
    refine list_val F (wn rfl) rfl rfl (.agg #[.slice RA rks.length rc, .int .u64 rnx]) (ex_load _ _ rfl _ (F.e rfl) _ (lvr (cs := [.slice RA rks.length rc, .int .u64 rnx]) rx_row_69_2 (M.at (i := 3) rfl))) ?_; clear F a; intro a F
    refine list_do (wn rfl) (fun K hK => ?_)
    refine ow_put F M rfl 69 _ _ rfl 5 _ #[.slice RA rks.length rc, .int .u64 rnx] _ rfl (F.e rfl) #[.slice RA rks.length rc, .int .u64 rnx] (F.e rfl) (sz_row (m := 2) rx_row_69_2) rfl (by simp [Value.oneCell']) ?_
    clear F a; have Mo := M; clear M; intro a v F M hgr
    refine hK _ _ ?_
    clear hK K
    replace S_ := S_.grown (Mo.blk 5 _ rfl) (by show (69 : Nat) ≠ 50 ∧ (69 : Nat) ≠ 55 ∧ (69 : Nat) ≠ 3 ∧ (69 : Nat) ≠ 66 ∧ (69 : Nat) ≠ 107; decide) hgr
    clear Mo hgr; try clear u
    replace M : Mm w v [⟨g13, #[.slice none 0 0, .int .u64 0], 69⟩, ⟨g11, #[.slice RA rks.length rc, .int .u64 rnx], 69⟩, ⟨g10, #[.slice XA rks.length xc, .int .u64 rnx], 69⟩, ⟨g8, #[.slice RA rks.length rc, .int .u64 rnx], 69⟩, ⟨g7, (stepCs act s tm kid (.slice B ks.length b) next).toArray, 72⟩, ⟨g5, #[.slice RA rks.length rc, .int .u64 rnx], 69⟩] := M
    refine wpList_nil ?_
    refine then_n ?_
    refine wp_seq ?_
    refine wp_region_lit ?_
    refine list_val F (wn rfl) rfl rfl (.agg #[.slice RA rks.length rc, .int .u64 rnx]) (ex_load _ _ rfl _ (F.e rfl) _ (lvr (cs := [.slice RA rks.length rc, .int .u64 rnx]) rx_row_69_2 (M.at (i := 5) rfl))) ?_; clear F a; intro a F
    refine list_val F (wn rfl) rfl rfl (.pointer (some ⟨g7, 34, none⟩)) (ex_fa _ _ _ rfl _ (F.e rfl) 34 rx_fa_72_3_34 ⟨g7, 34, none⟩ rfl) ?_; clear F a; intro a F
    refine list_val F (wn rfl) rfl rfl (.int .u64 kid) (ex_load _ _ rfl _ (F.e rfl) _ (lv1 rx_one_67 (M.cell (i := 4) rfl (j := 34) step_a34))) ?_; clear F a; intro a F
    refine list_do (wn rfl) (fun K hK => ?_)
    refine ow_call rfl rfl F 17 #[.agg #[.slice RA rks.length rc, .int .u64 rnx], .int .u64 kid] (ex_call 17 _ _ rfl rfl rx_ent_17 _ (map2 (F.e rfl) (F.e rfl))) (asks_any rks RA rc rnx kid _ S_.rd S_.rc (by omega)) (fun e u hR => ?_)
    obtain ⟨he, hb⟩ := hR
    refine ⟨.bool true, he, ?_⟩; clear he F a; intro a F
    refine hK _ _ ?_
    clear hK K
    replace S_ := S_.below hb
    replace M := M.below hb; clear hb; try clear v
    refine list_val F (wn rfl) rfl rfl (.bool false) (ex_not _ _ rfl _ (F.e rfl) _ rfl) ?_; clear F a; intro a F
    refine list_val F (wn rfl) rfl rfl (.bool false) (ex_move _ rfl _ (F.e rfl)) ?_; clear F a; intro a F
    refine list_val F (F.wants 188 false rfl (by kernel_rfl) rfl true rfl) rfl rfl (.pointer (some ⟨g17, 0, none⟩)) (ex_move _ rfl _ (F.e rfl)) ?_; clear F a; intro a F
    refine list_val F (F.wants 188 false rfl (by kernel_rfl) rfl true rfl) rfl rfl (.agg #[.slice RA rks.length rc, .int .u64 rnx]) (ex_load _ _ rfl _ (F.e rfl) _ (lvr (cs := [.slice RA rks.length rc, .int .u64 rnx]) rx_row_69_2 (M.at (i := 5) rfl))) ?_; clear F a; intro a F
    refine list_do (F.wants 188 false rfl (by kernel_rfl) rfl true rfl) (fun K hK => ?_)
    refine ow_call rfl rfl F 24 #[.pointer (some ⟨g17, 0, none⟩), .agg #[.slice RA rks.length rc, .int .u64 rnx]] (ex_call 24 _ _ rfl rfl rx_ent_24 _ (map2 (F.e rfl) (F.e rfl))) (placed_any own w.heap.size lim g15 g17 tn RA rc rks _ S_ rnx (by omega)) (fun e v hR => ?_)
    obtain ⟨he, S2, x_, ho, hx_⟩ := hR
    refine ⟨.bool true, he, ?_⟩; clear he F a; intro a F
    refine hK _ _ ?_
    clear hK K
    replace M := mm_onlyT M ho (Nat.le_refl _) M.bel.size (fun k hk => (hx_ k hk).2) ⟨⟨by show (69 : Nat) ∉ [66]; decide, by show (69 : Nat) ≠ 107; decide⟩, ⟨by show (69 : Nat) ∉ [66]; decide, by show (69 : Nat) ≠ 107; decide⟩, ⟨by show (69 : Nat) ∉ [66]; decide, by show (69 : Nat) ≠ 107; decide⟩, ⟨by show (69 : Nat) ∉ [66]; decide, by show (69 : Nat) ≠ 107; decide⟩, ⟨by show (72 : Nat) ∉ [66]; decide, by show (72 : Nat) ≠ 107; decide⟩, ⟨by show (69 : Nat) ∉ [66]; decide, by show (69 : Nat) ≠ 107; decide⟩, trivial⟩
    obtain ⟨lz, hlz⟩ : ∃ l, l = v.heap.size := ⟨_, rfl⟩
    rw [← hlz] at S2
    clear S_ ho hx_ hlz; have S_ := S2; clear S2; try clear u
    refine list_val F (F.wants 188 false rfl (by kernel_rfl) rfl true rfl) rfl rfl (.bool false) (ex_not _ _ rfl _ (F.e rfl) _ rfl) ?_; clear F a; intro a F
    refine list_val F (wn rfl) rfl rfl (.bool false) (ex_pick_f _ _ _ rfl (F.e rfl) _ (F.e rfl)) ?_; clear F a; intro a F
    refine wpList_nil ?_
    refine then_n ?_
    refine wp_cond_false (F.e rfl) ?_
    refine wp_skip ?_
    refine in_n ?_
    refine then_n ?_
    refine wp_region_lit ?_
    refine list_val F (wn rfl) rfl rfl (.int .i64 i) (ex_move _ rfl _ (F.e rfl)) ?_; clear F a; intro a F
    refine list_val F (wn rfl) rfl rfl (.int .i64 (i + 1)) (ex_bin .add _ _ _ _ rfl .i64 _ _ (F.e rfl) rfl _ (b_add (w_i64 (by omega) (by omega)))) ?_; clear F a; intro a F
    refine list_val F (wn rfl) rfl rfl (.int .i64 (i + 1)) (ex_assign _ rfl _ (F.e rfl)) ?_; clear F a; intro a F
    refine wpList_nil ?_
    refine then_n ?_
    exact ⟨l.length - (i + 1), by omega, (i + 1), own, lz, tn, RA, rc, rks, rnx, F.keep ⟨rfl, rfl, rfl, rfl, rfl, rfl, trivial⟩, (by refine M.pick' [5] _ ?_ (by decide); exact ⟨rfl, trivial⟩), S_, (by omega), (by omega), (by omega), (by omega), (by omega), (by omega)⟩
   refine wp_region_lit ?_
   refine list_val F (wn rfl) rfl rfl (.bool false) (ex_bin .eql _ _ _ _ rfl .i64 _ _ (F.e rfl) rfl _ (b_eql (beq_eq_false_iff_ne.2 ha5))) ?_; clear F a; intro a F
   refine list_val F (wn rfl) rfl rfl (.bool false) (ex_assign _ rfl _ (F.e rfl)) ?_; clear F a; intro a F
   refine wpList_nil ?_
   refine then_n ?_
   refine wp_cond_false (F.e rfl) ?_
   refine wp_seq ?_
   by_cases ha6 : act = 6
   ·
    refine wp_region_lit ?_
    refine list_val F (wn rfl) rfl rfl (.bool true) (ex_bin .eql _ _ _ _ rfl .i64 _ _ (F.e rfl) rfl _ (b_eql (by rw [ha6]; rfl))) ?_; clear F a; intro a F
    refine list_val F (wn rfl) rfl rfl (.bool true) (ex_assign _ rfl _ (F.e rfl)) ?_; clear F a; intro a F
    refine wpList_nil ?_
    refine then_n ?_
    refine wp_cond_true (F.e rfl) ?_
    refine wp_seq ?_
    refine wp_region_lit ?_
    refine list_val F (wn rfl) rfl rfl (.pointer (some ⟨g7, 35, none⟩)) (ex_fa _ _ _ rfl _ (F.e rfl) 35 rx_fa_72_4_35 ⟨g7, 35, none⟩ rfl) ?_; clear F a; intro a F
    refine list_val F (wn rfl) rfl rfl (.agg #[.slice B ks.length b, .int .u64 next]) (ex_load _ _ rfl _ (F.e rfl) _ (lvr (cs := [.slice B ks.length b, .int .u64 next]) rx_row_69_2 (step_raw (M.at (i := 4) rfl)))) ?_; clear F a; intro a F
    refine list_do (wn rfl) (fun K hK => ?_)
    obtain ⟨bw, hbw_⟩ : ∃ b, b = v.heap.size := ⟨_, rfl⟩
    have hxw : ∀ k, (Value.slice XA (rks ++ marks).length xc).ownBlock = some k → k < bw := fun k hk => by rw [hbw_]; exact (Ow_lt O_x hk).2
    have hlw : lim ≤ bw := by rw [hbw_]; exact S_.lim.2
    refine ow_call rfl rfl F 18 #[.agg #[.slice B ks.length b, .int .u64 next]] (ex_call 18 _ _ rfl rfl rx_ent_18 _ (map1 (F.e rfl))) (copyRing_wide ks B b next _ (Kd.C_below hB M.bel) hkl) (fun e u hR => ?_)
    obtain ⟨wA, wc, he, O_w, hb⟩ := hR
    replace O_w : Ow kKey 107 u bw (.slice wA ks.length wc) ks := by rw [hbw_]; exact O_w
    have Z_ : bw ≤ u.heap.size := by rw [hbw_]; exact hb.size
    clear hbw_
    refine ⟨.agg #[.slice wA ks.length wc, .int .u64 next], he, ?_⟩; clear he F a; intro a F
    refine hK _ _ ?_
    clear hK K
    replace S_ := S_.below hb
    replace O_x := O_x.below hb
    replace M := M.below hb; clear hb; try clear v
    refine list_do (wn rfl) (fun K hK => ?_)
    refine ow_put F M rfl 69 _ _ rfl 3 _ #[.slice RA rks.length rc, .int .u64 rnx] _ rfl (F.e rfl) #[.slice wA ks.length wc, .int .u64 next] (F.e rfl) (sz_row (m := 2) rx_row_69_2) rfl (by simp [Value.oneCell']) ?_
    clear F a; have Mo := M; clear M; intro a v F M hgr
    refine hK _ _ ?_
    clear hK K
    replace S_ := S_.grown (Mo.blk 3 _ rfl) (by show (69 : Nat) ≠ 50 ∧ (69 : Nat) ≠ 55 ∧ (69 : Nat) ≠ 3 ∧ (69 : Nat) ≠ 66 ∧ (69 : Nat) ≠ 107; decide) hgr
    replace O_x := Ow.grown (enc := Key.cs) (m := 34) (hl := Key.cs_len) (h1 := Key.cs_one) O_x (Mo.blk 3 _ rfl) (.inl (by show (107 : Nat) ≠ 69; decide)) hgr
    replace O_w := Ow.grown (enc := Key.cs) (m := 34) (hl := Key.cs_len) (h1 := Key.cs_one) O_w (Mo.blk 3 _ rfl) (.inl (by show (107 : Nat) ≠ 69; decide)) hgr
    replace Z_ := Nat.le_trans Z_ hgr.size
    clear Mo hgr; try clear u
    replace M : Mm w v [⟨g13, #[.slice none 0 0, .int .u64 0], 69⟩, ⟨g11, #[.slice RA rks.length rc, .int .u64 rnx], 69⟩, ⟨g10, #[.slice XA rks.length xc, .int .u64 rnx], 69⟩, ⟨g8, #[.slice wA ks.length wc, .int .u64 next], 69⟩, ⟨g7, (stepCs act s tm kid (.slice B ks.length b) next).toArray, 72⟩, ⟨g5, #[.slice RA rks.length rc, .int .u64 rnx], 69⟩] := M
    refine wpList_nil ?_
    refine then_n ?_
    refine wp_seq ?_
    obtain ⟨q, hqe⟩ : ∃ q, (⟨ks, next⟩ : Rg) = q := ⟨_, rfl⟩
    obtain rfl : ks = q.keys := by rw [← hqe]
    obtain rfl : next = q.next := by rw [← hqe]
    clear hqe
    by_cases hlong : 40 < q.keys.length
    ·
     refine wp_region_lit ?_
     refine list_val F (wn rfl) rfl rfl (.pointer (some ⟨g8, 0, none⟩)) (ex_fa _ _ _ rfl _ (F.e rfl) 0 rx_fa_69_0_0 ⟨g8, 0, none⟩ rfl) ?_; clear F a; intro a F
     refine list_val F (wn rfl) rfl rfl (.slice wA q.keys.length wc) (ex_load _ _ rfl _ (F.e rfl) _ (lv1 rx_one_55 (M.cell (i := 3) rfl (j := 0) rfl))) ?_; clear F a; intro a F
     refine list_val F (wn rfl) rfl rfl (.int .i64 ((q.keys.length : Nat) : Int)) (ex_len _ _ rfl 34 rx_sl_55_34 _ _ _ (F.e rfl)) ?_; clear F a; intro a F
     refine list_val F (wn rfl) rfl rfl (.bool true) (ex_bin .gtr _ _ _ _ rfl .i64 _ _ (F.e rfl) rfl _ (b_gtr (decide_eq_true (by omega)))) ?_; clear F a; intro a F
     refine wpList_nil ?_
     refine then_n ?_
     refine wp_cond_true (F.e rfl) ?_
     refine wp_region_lit ?_
     refine list_val F (wn rfl) rfl rfl (.pointer (some ⟨g8, 0, none⟩)) (ex_fa _ _ _ rfl _ (F.e rfl) 0 rx_fa_69_0_0 ⟨g8, 0, none⟩ rfl) ?_; clear F a; intro a F
     refine list_val F (wn rfl) rfl rfl (.slice wA q.keys.length wc) (ex_load _ _ rfl _ (F.e rfl) _ (lv1 rx_one_55 (M.cell (i := 3) rfl (j := 0) rfl))) ?_; clear F a; intro a F
     refine list_val F (wn rfl) rfl rfl (.slice wA ((q.keys.take 40).length) wc) (ex_cutto _ _ rfl wA q.keys.length wc (F.e rfl) _ rfl ((q.keys.take 40).length) (by rw [List.length_take]; omega) (by have h_ := (Ow.rd (k := kKey) O_w).2.2; rw [List.length_take]; omega)) ?_; clear F a; intro a F
     refine list_val F (wn rfl) rfl rfl (.pointer (some ⟨g8, 0, none⟩)) (ex_fa _ _ _ rfl _ (F.e rfl) 0 rx_fa_69_0_0 ⟨g8, 0, none⟩ rfl) ?_; clear F a; intro a F
     refine list_do (wn rfl) (fun K hK => ?_)
     refine ow_store F M rfl 55 _ _ rfl 3 g8 _ _ rfl 0 (F.e rfl) _ (F.e rfl) [.slice wA ((q.keys.take 40).length) wc] rfl rx_info_55_map_size_some_1 (by simp) (by simp [Value.oneCell']) #[.slice wA ((q.keys.take 40).length) wc, .int .u64 q.next] rfl ?_
     clear F a; have Mo := M; clear M; intro a u F M hgr
     refine hK _ _ ?_
     clear hK K
     replace S_ := S_.grown (Mo.blk 3 _ rfl) (by show (69 : Nat) ≠ 50 ∧ (69 : Nat) ≠ 55 ∧ (69 : Nat) ≠ 3 ∧ (69 : Nat) ≠ 66 ∧ (69 : Nat) ≠ 107; decide) hgr
     replace O_x := Ow.grown (enc := Key.cs) (m := 34) (hl := Key.cs_len) (h1 := Key.cs_one) O_x (Mo.blk 3 _ rfl) (.inl (by show (107 : Nat) ≠ 69; decide)) hgr
     replace O_w := Ow.grown (enc := Key.cs) (m := 34) (hl := Key.cs_len) (h1 := Key.cs_one) O_w (Mo.blk 3 _ rfl) (.inl (by show (107 : Nat) ≠ 69; decide)) hgr
     replace Z_ := Nat.le_trans Z_ hgr.size
     clear Mo hgr; try clear v
     replace M : Mm w u [⟨g13, #[.slice none 0 0, .int .u64 0], 69⟩, ⟨g11, #[.slice RA rks.length rc, .int .u64 rnx], 69⟩, ⟨g10, #[.slice XA rks.length xc, .int .u64 rnx], 69⟩, ⟨g8, #[.slice wA ((q.keys.take 40).length) wc, .int .u64 q.next], 69⟩, ⟨g7, (stepCs act s tm kid (.slice B q.keys.length b) q.next).toArray, 72⟩, ⟨g5, #[.slice RA rks.length rc, .int .u64 rnx], 69⟩] := M
     refine wpList_nil ?_
     refine in_n ?_
     refine then_n ?_
     refine wp_seq ?_
     refine wp_seq ?_
     refine wp_region_lit ?_
     refine list_val F (wn rfl) rfl rfl (.pointer (some ⟨g10, 0, none⟩)) (ex_fa _ _ _ rfl _ (F.e rfl) 0 rx_fa_69_0_0 ⟨g10, 0, none⟩ rfl) ?_; clear F a; intro a F
     refine list_val F (wn rfl) rfl rfl (.slice XA rks.length xc) (ex_load _ _ rfl _ (F.e rfl) _ (lv1 rx_one_55 (M.cell (i := 2) rfl (j := 0) rfl))) ?_; clear F a; intro a F
     refine list_val F (wn rfl) rfl rfl (.pointer (some ⟨g5, 0, none⟩)) (ex_fa _ _ _ rfl _ (F.e rfl) 0 rx_fa_69_0_0 ⟨g5, 0, none⟩ rfl) ?_; clear F a; intro a F
     refine list_val F (wn rfl) rfl rfl (.slice RA rks.length rc) (ex_load _ _ rfl _ (F.e rfl) _ (lv1 rx_one_55 (M.cell (i := 5) rfl (j := 0) rfl))) ?_; clear F a; intro a F
     refine list_do (wn rfl) (fun K hK => ?_)
     refine ow_call rfl rfl F 19 #[.slice XA rks.length xc, .slice RA rks.length rc] (ex_call 19 _ _ rfl rfl rx_ent_19 _ (map2 (F.e rfl) (F.e rfl))) (backKeys_any rks _ xc _ rc _ (Ow.rd (k := kKey) O_x).1 (Ow.rd (k := kKey) O_x).2.2 S_.rd S_.rc (by omega)) (fun e v hR => ?_)
     obtain ⟨he, hb⟩ := hR
     refine ⟨.bool true, he, ?_⟩; clear he F a; intro a F
     refine hK _ _ ?_
     clear hK K
     replace S_ := S_.below hb
     replace O_x := O_x.below hb
     replace O_w := O_w.below hb
     replace Z_ := Nat.le_trans Z_ hb.size
     replace M := M.below hb; clear hb; try clear u
     refine list_val F (wn rfl) rfl rfl (.bool false) (ex_not _ _ rfl _ (F.e rfl) _ rfl) ?_; clear F a; intro a F
     refine wpList_nil ?_
     refine then_n ?_
     refine wp_cond_false (F.e rfl) ?_
     refine wp_skip ?_
     refine then_n ?_
     refine wp_seq ?_
     refine wp_region_lit ?_
     refine list_val F (wn rfl) rfl rfl (.pointer (some ⟨g10, 0, none⟩)) (ex_fa _ _ _ rfl _ (F.e rfl) 0 rx_fa_69_0_0 ⟨g10, 0, none⟩ rfl) ?_; clear F a; intro a F
     refine list_val F (wn rfl) rfl rfl (.slice XA rks.length xc) (ex_load _ _ rfl _ (F.e rfl) _ (lv1 rx_one_55 (M.cell (i := 2) rfl (j := 0) rfl))) ?_; clear F a; intro a F
     refine list_do (wn rfl) (fun K hK => ?_)
     refine ow_call rfl rfl F 20 #[.slice XA rks.length xc] (ex_call 20 _ _ rfl rfl rx_ent_20 _ (map1 (F.e rfl))) (over_own O_x (by omega)) (fun e u hR => ?_)
     obtain ⟨he, gx, cx, hcx, hbx, hox, hgr⟩ := hR
     refine ⟨.tuple #[], he, ?_⟩; clear he F a; intro a F
     refine hK _ _ ?_
     clear hK K
     replace S_ := S_.over hcx hlx hbx hgr
     replace O_w := Ow_ap O_w (by have h_ := hxw _ hox; omega) hgr
     replace Z_ := Nat.le_trans Z_ hgr.size
     replace M := mm_grows M (base := w.heap.size) (Nat.le_refl _) ⟨.inl (by show (69 : Nat) ≠ 107; decide), .inl (by show (69 : Nat) ≠ 107; decide), .inl (by show (69 : Nat) ≠ 107; decide), .inl (by show (69 : Nat) ≠ 107; decide), .inl (by show (72 : Nat) ≠ 107; decide), .inl (by show (69 : Nat) ≠ 107; decide), trivial⟩ ⟨some gx, hgr, fun g e => by injection e with e; subst e; exact ⟨Nat.le_trans S_.lim.1 (Nat.le_trans hlx hbx), cx, hcx⟩⟩
     clear O_x hcx hgr; try clear v
     refine wpList_nil ?_
     refine then_n ?_
     refine wp_seq ?_
     refine wp_seq ?_
     refine wp_region_lit ?_
     refine list_val F (wn rfl) rfl rfl (.pointer (some ⟨g7, 0, none⟩)) (ex_fa _ _ _ rfl _ (F.e rfl) 0 rx_fa_72_0_0 ⟨g7, 0, none⟩ rfl) ?_; clear F a; intro a F
     refine list_val F (wn rfl) rfl rfl (.int .i64 act) (ex_load _ _ rfl _ (F.e rfl) _ (lv1 rx_one_3 (M.cell (i := 4) rfl (j := 0) rfl))) ?_; clear F a; intro a F
     refine list_val F (wn rfl) rfl rfl (.bool true) (ex_bin .geq _ _ _ _ rfl .i64 _ _ (F.e rfl) rfl _ (b_geq (decide_eq_true (by omega)))) ?_; clear F a; intro a F
     refine list_val F (wn rfl) rfl rfl (.bool true) (ex_move _ rfl _ (F.e rfl)) ?_; clear F a; intro a F
     refine list_val F (F.wants 154 true rfl (by kernel_rfl) rfl true rfl) rfl rfl (.pointer (some ⟨g7, 0, none⟩)) (ex_fa _ _ _ rfl _ (F.e rfl) 0 rx_fa_72_0_0 ⟨g7, 0, none⟩ rfl) ?_; clear F a; intro a F
     refine list_val F (F.wants 154 true rfl (by kernel_rfl) rfl true rfl) rfl rfl (.int .i64 act) (ex_load _ _ rfl _ (F.e rfl) _ (lv1 rx_one_3 (M.cell (i := 4) rfl (j := 0) rfl))) ?_; clear F a; intro a F
     refine list_val F (F.wants 154 true rfl (by kernel_rfl) rfl true rfl) rfl rfl (.bool false) (ex_bin .leq _ _ _ _ rfl .i64 _ _ (F.e rfl) rfl _ (b_leq (decide_eq_false (by omega)))) ?_; clear F a; intro a F
     refine list_val F (wn rfl) rfl rfl (.bool false) (ex_pick_t _ _ _ rfl (F.e rfl) _ (F.e rfl)) ?_; clear F a; intro a F
     refine wpList_nil ?_
     replace F : Fr 199 a [(0, .slice (some adt) l.length c), (2, .bool false), (3, .pointer (some ⟨g15, 0, none⟩)), (4, .pointer (some ⟨g17, 0, none⟩)), (5, .pointer (some ⟨g5, 0, none⟩)), (6, .int .i64 i), (7, .pointer (some ⟨g7, 0, none⟩)), (8, .pointer (some ⟨g8, 0, none⟩)), (9, .int .i64 0), (10, .pointer (some ⟨g10, 0, none⟩)), (11, .pointer (some ⟨g11, 0, none⟩)), (12, .int .i64 0), (13, .pointer (some ⟨g13, 0, none⟩)), (26, .bool true), (38, .int .i64 act), (39, .bool false), (50, .bool false), (79, .bool false), (93, .bool false), (122, .bool false), (129, .bool true), (137, .bool true), (147, .bool false), (158, .bool false)] := F.keep ⟨rfl, rfl, rfl, rfl, rfl, rfl, rfl, rfl, rfl, rfl, rfl, rfl, rfl, rfl, rfl, rfl, rfl, rfl, rfl, rfl, rfl, rfl, rfl, rfl, trivial⟩
     refine then_n ?_
     refine wp_cond_false (F.e rfl) ?_
     refine wp_skip ?_
     refine then_n ?_
     refine wp_seq ?_
     replace O_w := Ow_cutn O_w (k := 40) (by omega)
     replace S_ := S_.setr O_w (Nat.le_trans S_.lim.1 hlw) (fun k hk => ⟨S_.fresh k (by have h_ := (Ow_lt O_w hk).1; omega), (Ow_lt O_w hk).2⟩) hlw S_.lim.2 (Nat.le_refl _)
     obtain ⟨lw, hlw2⟩ : ∃ l, l = u.heap.size := ⟨_, rfl⟩
     rw [← hlw2] at S_; clear hlw2
     clear O_w
     have hql : (q.keys.take 40).length ≤ 40 := by rw [List.length_take]; omega
     refine wp_region_lit ?_
     refine list_val F (wn rfl) rfl rfl (.agg #[.slice wA ((q.keys.take 40).length) wc, .int .u64 q.next]) (ex_load _ _ rfl _ (F.e rfl) _ (lvr (cs := [.slice wA ((q.keys.take 40).length) wc, .int .u64 q.next]) rx_row_69_2 (M.at (i := 3) rfl))) ?_; clear F a; intro a F
     refine list_do (wn rfl) (fun K hK => ?_)
     refine ow_put F M rfl 69 _ _ rfl 5 _ #[.slice RA rks.length rc, .int .u64 rnx] _ rfl (F.e rfl) #[.slice wA ((q.keys.take 40).length) wc, .int .u64 q.next] (F.e rfl) (sz_row (m := 2) rx_row_69_2) rfl (by simp [Value.oneCell']) ?_
     clear F a; have Mo := M; clear M; intro a v F M hgr
     refine hK _ _ ?_
     clear hK K
     replace S_ := S_.grown (Mo.blk 5 _ rfl) (by show (69 : Nat) ≠ 50 ∧ (69 : Nat) ≠ 55 ∧ (69 : Nat) ≠ 3 ∧ (69 : Nat) ≠ 66 ∧ (69 : Nat) ≠ 107; decide) hgr
     replace Z_ := Nat.le_trans Z_ hgr.size
     clear Mo hgr; try clear u
     replace M : Mm w v [⟨g13, #[.slice none 0 0, .int .u64 0], 69⟩, ⟨g11, #[.slice RA rks.length rc, .int .u64 rnx], 69⟩, ⟨g10, #[.slice XA rks.length xc, .int .u64 rnx], 69⟩, ⟨g8, #[.slice wA ((q.keys.take 40).length) wc, .int .u64 q.next], 69⟩, ⟨g7, (stepCs act s tm kid (.slice B q.keys.length b) q.next).toArray, 72⟩, ⟨g5, #[.slice wA ((q.keys.take 40).length) wc, .int .u64 q.next], 69⟩] := M
     refine wpList_nil ?_
     refine then_n ?_
     refine wp_seq ?_
     clear Z_
     refine wp_region_lit ?_
     refine list_val F (wn rfl) rfl rfl (.agg #[.slice wA ((q.keys.take 40).length) wc, .int .u64 q.next]) (ex_load _ _ rfl _ (F.e rfl) _ (lvr (cs := [.slice wA ((q.keys.take 40).length) wc, .int .u64 q.next]) rx_row_69_2 (M.at (i := 5) rfl))) ?_; clear F a; intro a F
     refine list_val F (wn rfl) rfl rfl (.pointer (some ⟨g7, 34, none⟩)) (ex_fa _ _ _ rfl _ (F.e rfl) 34 rx_fa_72_3_34 ⟨g7, 34, none⟩ rfl) ?_; clear F a; intro a F
     refine list_val F (wn rfl) rfl rfl (.int .u64 kid) (ex_load _ _ rfl _ (F.e rfl) _ (lv1 rx_one_67 (M.cell (i := 4) rfl (j := 34) step_a34))) ?_; clear F a; intro a F
     refine list_do (wn rfl) (fun K hK => ?_)
     refine ow_call rfl rfl F 17 #[.agg #[.slice wA ((q.keys.take 40).length) wc, .int .u64 q.next], .int .u64 kid] (ex_call 17 _ _ rfl rfl rx_ent_17 _ (map2 (F.e rfl) (F.e rfl))) (asks_any (q.keys.take 40) wA wc q.next kid _ S_.rd S_.rc (by omega)) (fun e u hR => ?_)
     obtain ⟨he, hb⟩ := hR
     refine ⟨.bool true, he, ?_⟩; clear he F a; intro a F
     refine hK _ _ ?_
     clear hK K
     replace S_ := S_.below hb
     replace M := M.below hb; clear hb; try clear v
     refine list_val F (wn rfl) rfl rfl (.bool false) (ex_not _ _ rfl _ (F.e rfl) _ rfl) ?_; clear F a; intro a F
     refine list_val F (wn rfl) rfl rfl (.bool false) (ex_move _ rfl _ (F.e rfl)) ?_; clear F a; intro a F
     refine list_val F (F.wants 188 false rfl (by kernel_rfl) rfl true rfl) rfl rfl (.pointer (some ⟨g17, 0, none⟩)) (ex_move _ rfl _ (F.e rfl)) ?_; clear F a; intro a F
     refine list_val F (F.wants 188 false rfl (by kernel_rfl) rfl true rfl) rfl rfl (.agg #[.slice wA ((q.keys.take 40).length) wc, .int .u64 q.next]) (ex_load _ _ rfl _ (F.e rfl) _ (lvr (cs := [.slice wA ((q.keys.take 40).length) wc, .int .u64 q.next]) rx_row_69_2 (M.at (i := 5) rfl))) ?_; clear F a; intro a F
     refine list_do (F.wants 188 false rfl (by kernel_rfl) rfl true rfl) (fun K hK => ?_)
     refine ow_call rfl rfl F 24 #[.pointer (some ⟨g17, 0, none⟩), .agg #[.slice wA ((q.keys.take 40).length) wc, .int .u64 q.next]] (ex_call 24 _ _ rfl rfl rx_ent_24 _ (map2 (F.e rfl) (F.e rfl))) (placed_any own w.heap.size lw g15 g17 tn wA wc (q.keys.take 40) _ S_ q.next (by omega)) (fun e v hR => ?_)
     obtain ⟨he, S2, x_, ho, hx_⟩ := hR
     refine ⟨.bool true, he, ?_⟩; clear he F a; intro a F
     refine hK _ _ ?_
     clear hK K
     replace M := mm_onlyT M ho (Nat.le_refl _) M.bel.size (fun k hk => (hx_ k hk).2) ⟨⟨by show (69 : Nat) ∉ [66]; decide, by show (69 : Nat) ≠ 107; decide⟩, ⟨by show (69 : Nat) ∉ [66]; decide, by show (69 : Nat) ≠ 107; decide⟩, ⟨by show (69 : Nat) ∉ [66]; decide, by show (69 : Nat) ≠ 107; decide⟩, ⟨by show (69 : Nat) ∉ [66]; decide, by show (69 : Nat) ≠ 107; decide⟩, ⟨by show (72 : Nat) ∉ [66]; decide, by show (72 : Nat) ≠ 107; decide⟩, ⟨by show (69 : Nat) ∉ [66]; decide, by show (69 : Nat) ≠ 107; decide⟩, trivial⟩
     obtain ⟨lz, hlz⟩ : ∃ l, l = v.heap.size := ⟨_, rfl⟩
     rw [← hlz] at S2
     clear S_ ho hx_ hlz; have S_ := S2; clear S2; try clear u
     refine list_val F (F.wants 188 false rfl (by kernel_rfl) rfl true rfl) rfl rfl (.bool false) (ex_not _ _ rfl _ (F.e rfl) _ rfl) ?_; clear F a; intro a F
     refine list_val F (wn rfl) rfl rfl (.bool false) (ex_pick_f _ _ _ rfl (F.e rfl) _ (F.e rfl)) ?_; clear F a; intro a F
     refine wpList_nil ?_
     refine then_n ?_
     refine wp_cond_false (F.e rfl) ?_
     refine wp_skip ?_
     refine in_n ?_
     refine then_n ?_
     refine wp_region_lit ?_
     refine list_val F (wn rfl) rfl rfl (.int .i64 i) (ex_move _ rfl _ (F.e rfl)) ?_; clear F a; intro a F
     refine list_val F (wn rfl) rfl rfl (.int .i64 (i + 1)) (ex_bin .add _ _ _ _ rfl .i64 _ _ (F.e rfl) rfl _ (b_add (w_i64 (by omega) (by omega)))) ?_; clear F a; intro a F
     refine list_val F (wn rfl) rfl rfl (.int .i64 (i + 1)) (ex_assign _ rfl _ (F.e rfl)) ?_; clear F a; intro a F
     refine wpList_nil ?_
     refine then_n ?_
     exact ⟨l.length - (i + 1), by omega, (i + 1), own, lz, tn, wA, wc, (q.keys.take 40), q.next, F.keep ⟨rfl, rfl, rfl, rfl, rfl, rfl, trivial⟩, (by refine M.pick' [5] _ ?_ (by decide); exact ⟨rfl, trivial⟩), S_, (by omega), (by omega), (by omega), (by omega), (by omega), (by omega)⟩
    refine wp_region_lit ?_
    refine list_val F (wn rfl) rfl rfl (.pointer (some ⟨g8, 0, none⟩)) (ex_fa _ _ _ rfl _ (F.e rfl) 0 rx_fa_69_0_0 ⟨g8, 0, none⟩ rfl) ?_; clear F a; intro a F
    refine list_val F (wn rfl) rfl rfl (.slice wA q.keys.length wc) (ex_load _ _ rfl _ (F.e rfl) _ (lv1 rx_one_55 (M.cell (i := 3) rfl (j := 0) rfl))) ?_; clear F a; intro a F
    refine list_val F (wn rfl) rfl rfl (.int .i64 ((q.keys.length : Nat) : Int)) (ex_len _ _ rfl 34 rx_sl_55_34 _ _ _ (F.e rfl)) ?_; clear F a; intro a F
    refine list_val F (wn rfl) rfl rfl (.bool false) (ex_bin .gtr _ _ _ _ rfl .i64 _ _ (F.e rfl) rfl _ (b_gtr (decide_eq_false (by omega)))) ?_; clear F a; intro a F
    refine wpList_nil ?_
    refine then_n ?_
    refine wp_cond_false (F.e rfl) ?_
    refine wp_skip ?_
    refine in_n ?_
    refine then_n ?_
    refine wp_seq ?_
    refine wp_seq ?_
    refine wp_region_lit ?_
    refine list_val F (wn rfl) rfl rfl (.pointer (some ⟨g10, 0, none⟩)) (ex_fa _ _ _ rfl _ (F.e rfl) 0 rx_fa_69_0_0 ⟨g10, 0, none⟩ rfl) ?_; clear F a; intro a F
    refine list_val F (wn rfl) rfl rfl (.slice XA rks.length xc) (ex_load _ _ rfl _ (F.e rfl) _ (lv1 rx_one_55 (M.cell (i := 2) rfl (j := 0) rfl))) ?_; clear F a; intro a F
    refine list_val F (wn rfl) rfl rfl (.pointer (some ⟨g5, 0, none⟩)) (ex_fa _ _ _ rfl _ (F.e rfl) 0 rx_fa_69_0_0 ⟨g5, 0, none⟩ rfl) ?_; clear F a; intro a F
    refine list_val F (wn rfl) rfl rfl (.slice RA rks.length rc) (ex_load _ _ rfl _ (F.e rfl) _ (lv1 rx_one_55 (M.cell (i := 5) rfl (j := 0) rfl))) ?_; clear F a; intro a F
    refine list_do (wn rfl) (fun K hK => ?_)
    refine ow_call rfl rfl F 19 #[.slice XA rks.length xc, .slice RA rks.length rc] (ex_call 19 _ _ rfl rfl rx_ent_19 _ (map2 (F.e rfl) (F.e rfl))) (backKeys_any rks _ xc _ rc _ (Ow.rd (k := kKey) O_x).1 (Ow.rd (k := kKey) O_x).2.2 S_.rd S_.rc (by omega)) (fun e u hR => ?_)
    obtain ⟨he, hb⟩ := hR
    refine ⟨.bool true, he, ?_⟩; clear he F a; intro a F
    refine hK _ _ ?_
    clear hK K
    replace S_ := S_.below hb
    replace O_x := O_x.below hb
    replace O_w := O_w.below hb
    replace Z_ := Nat.le_trans Z_ hb.size
    replace M := M.below hb; clear hb; try clear v
    refine list_val F (wn rfl) rfl rfl (.bool false) (ex_not _ _ rfl _ (F.e rfl) _ rfl) ?_; clear F a; intro a F
    refine wpList_nil ?_
    refine then_n ?_
    refine wp_cond_false (F.e rfl) ?_
    refine wp_skip ?_
    refine then_n ?_
    refine wp_seq ?_
    refine wp_region_lit ?_
    refine list_val F (wn rfl) rfl rfl (.pointer (some ⟨g10, 0, none⟩)) (ex_fa _ _ _ rfl _ (F.e rfl) 0 rx_fa_69_0_0 ⟨g10, 0, none⟩ rfl) ?_; clear F a; intro a F
    refine list_val F (wn rfl) rfl rfl (.slice XA rks.length xc) (ex_load _ _ rfl _ (F.e rfl) _ (lv1 rx_one_55 (M.cell (i := 2) rfl (j := 0) rfl))) ?_; clear F a; intro a F
    refine list_do (wn rfl) (fun K hK => ?_)
    refine ow_call rfl rfl F 20 #[.slice XA rks.length xc] (ex_call 20 _ _ rfl rfl rx_ent_20 _ (map1 (F.e rfl))) (over_own O_x (by omega)) (fun e v hR => ?_)
    obtain ⟨he, gx, cx, hcx, hbx, hox, hgr⟩ := hR
    refine ⟨.tuple #[], he, ?_⟩; clear he F a; intro a F
    refine hK _ _ ?_
    clear hK K
    replace S_ := S_.over hcx hlx hbx hgr
    replace O_w := Ow_ap O_w (by have h_ := hxw _ hox; omega) hgr
    replace Z_ := Nat.le_trans Z_ hgr.size
    replace M := mm_grows M (base := w.heap.size) (Nat.le_refl _) ⟨.inl (by show (69 : Nat) ≠ 107; decide), .inl (by show (69 : Nat) ≠ 107; decide), .inl (by show (69 : Nat) ≠ 107; decide), .inl (by show (69 : Nat) ≠ 107; decide), .inl (by show (72 : Nat) ≠ 107; decide), .inl (by show (69 : Nat) ≠ 107; decide), trivial⟩ ⟨some gx, hgr, fun g e => by injection e with e; subst e; exact ⟨Nat.le_trans S_.lim.1 (Nat.le_trans hlx hbx), cx, hcx⟩⟩
    clear O_x hcx hgr; try clear u
    refine wpList_nil ?_
    refine then_n ?_
    refine wp_seq ?_
    refine wp_seq ?_
    refine wp_region_lit ?_
    refine list_val F (wn rfl) rfl rfl (.pointer (some ⟨g7, 0, none⟩)) (ex_fa _ _ _ rfl _ (F.e rfl) 0 rx_fa_72_0_0 ⟨g7, 0, none⟩ rfl) ?_; clear F a; intro a F
    refine list_val F (wn rfl) rfl rfl (.int .i64 act) (ex_load _ _ rfl _ (F.e rfl) _ (lv1 rx_one_3 (M.cell (i := 4) rfl (j := 0) rfl))) ?_; clear F a; intro a F
    refine list_val F (wn rfl) rfl rfl (.bool true) (ex_bin .geq _ _ _ _ rfl .i64 _ _ (F.e rfl) rfl _ (b_geq (decide_eq_true (by omega)))) ?_; clear F a; intro a F
    refine list_val F (wn rfl) rfl rfl (.bool true) (ex_move _ rfl _ (F.e rfl)) ?_; clear F a; intro a F
    refine list_val F (F.wants 154 true rfl (by kernel_rfl) rfl true rfl) rfl rfl (.pointer (some ⟨g7, 0, none⟩)) (ex_fa _ _ _ rfl _ (F.e rfl) 0 rx_fa_72_0_0 ⟨g7, 0, none⟩ rfl) ?_; clear F a; intro a F
    refine list_val F (F.wants 154 true rfl (by kernel_rfl) rfl true rfl) rfl rfl (.int .i64 act) (ex_load _ _ rfl _ (F.e rfl) _ (lv1 rx_one_3 (M.cell (i := 4) rfl (j := 0) rfl))) ?_; clear F a; intro a F
    refine list_val F (F.wants 154 true rfl (by kernel_rfl) rfl true rfl) rfl rfl (.bool false) (ex_bin .leq _ _ _ _ rfl .i64 _ _ (F.e rfl) rfl _ (b_leq (decide_eq_false (by omega)))) ?_; clear F a; intro a F
    refine list_val F (wn rfl) rfl rfl (.bool false) (ex_pick_t _ _ _ rfl (F.e rfl) _ (F.e rfl)) ?_; clear F a; intro a F
    refine wpList_nil ?_
    refine then_n ?_
    refine wp_cond_false (F.e rfl) ?_
    refine wp_skip ?_
    refine then_n ?_
    refine wp_seq ?_
    replace S_ := S_.setr O_w (Nat.le_trans S_.lim.1 hlw) (fun k hk => ⟨S_.fresh k (by have h_ := (Ow_lt O_w hk).1; omega), (Ow_lt O_w hk).2⟩) hlw S_.lim.2 (Nat.le_refl _)
    obtain ⟨lw, hlw2⟩ : ∃ l, l = v.heap.size := ⟨_, rfl⟩
    rw [← hlw2] at S_; clear hlw2
    clear O_w
    refine wp_region_lit ?_
    refine list_val F (wn rfl) rfl rfl (.agg #[.slice wA q.keys.length wc, .int .u64 q.next]) (ex_load _ _ rfl _ (F.e rfl) _ (lvr (cs := [.slice wA q.keys.length wc, .int .u64 q.next]) rx_row_69_2 (M.at (i := 3) rfl))) ?_; clear F a; intro a F
    refine list_do (wn rfl) (fun K hK => ?_)
    refine ow_put F M rfl 69 _ _ rfl 5 _ #[.slice RA rks.length rc, .int .u64 rnx] _ rfl (F.e rfl) #[.slice wA q.keys.length wc, .int .u64 q.next] (F.e rfl) (sz_row (m := 2) rx_row_69_2) rfl (by simp [Value.oneCell']) ?_
    clear F a; have Mo := M; clear M; intro a u F M hgr
    refine hK _ _ ?_
    clear hK K
    replace S_ := S_.grown (Mo.blk 5 _ rfl) (by show (69 : Nat) ≠ 50 ∧ (69 : Nat) ≠ 55 ∧ (69 : Nat) ≠ 3 ∧ (69 : Nat) ≠ 66 ∧ (69 : Nat) ≠ 107; decide) hgr
    replace Z_ := Nat.le_trans Z_ hgr.size
    clear Mo hgr; try clear v
    replace M : Mm w u [⟨g13, #[.slice none 0 0, .int .u64 0], 69⟩, ⟨g11, #[.slice RA rks.length rc, .int .u64 rnx], 69⟩, ⟨g10, #[.slice XA rks.length xc, .int .u64 rnx], 69⟩, ⟨g8, #[.slice wA q.keys.length wc, .int .u64 q.next], 69⟩, ⟨g7, (stepCs act s tm kid (.slice B q.keys.length b) q.next).toArray, 72⟩, ⟨g5, #[.slice wA q.keys.length wc, .int .u64 q.next], 69⟩] := M
    refine wpList_nil ?_
    refine then_n ?_
    refine wp_seq ?_
    clear Z_
    refine wp_region_lit ?_
    refine list_val F (wn rfl) rfl rfl (.agg #[.slice wA q.keys.length wc, .int .u64 q.next]) (ex_load _ _ rfl _ (F.e rfl) _ (lvr (cs := [.slice wA q.keys.length wc, .int .u64 q.next]) rx_row_69_2 (M.at (i := 5) rfl))) ?_; clear F a; intro a F
    refine list_val F (wn rfl) rfl rfl (.pointer (some ⟨g7, 34, none⟩)) (ex_fa _ _ _ rfl _ (F.e rfl) 34 rx_fa_72_3_34 ⟨g7, 34, none⟩ rfl) ?_; clear F a; intro a F
    refine list_val F (wn rfl) rfl rfl (.int .u64 kid) (ex_load _ _ rfl _ (F.e rfl) _ (lv1 rx_one_67 (M.cell (i := 4) rfl (j := 34) step_a34))) ?_; clear F a; intro a F
    refine list_do (wn rfl) (fun K hK => ?_)
    refine ow_call rfl rfl F 17 #[.agg #[.slice wA q.keys.length wc, .int .u64 q.next], .int .u64 kid] (ex_call 17 _ _ rfl rfl rx_ent_17 _ (map2 (F.e rfl) (F.e rfl))) (asks_any q.keys wA wc q.next kid _ S_.rd S_.rc (by omega)) (fun e v hR => ?_)
    obtain ⟨he, hb⟩ := hR
    refine ⟨.bool true, he, ?_⟩; clear he F a; intro a F
    refine hK _ _ ?_
    clear hK K
    replace S_ := S_.below hb
    replace M := M.below hb; clear hb; try clear u
    refine list_val F (wn rfl) rfl rfl (.bool false) (ex_not _ _ rfl _ (F.e rfl) _ rfl) ?_; clear F a; intro a F
    refine list_val F (wn rfl) rfl rfl (.bool false) (ex_move _ rfl _ (F.e rfl)) ?_; clear F a; intro a F
    refine list_val F (F.wants 188 false rfl (by kernel_rfl) rfl true rfl) rfl rfl (.pointer (some ⟨g17, 0, none⟩)) (ex_move _ rfl _ (F.e rfl)) ?_; clear F a; intro a F
    refine list_val F (F.wants 188 false rfl (by kernel_rfl) rfl true rfl) rfl rfl (.agg #[.slice wA q.keys.length wc, .int .u64 q.next]) (ex_load _ _ rfl _ (F.e rfl) _ (lvr (cs := [.slice wA q.keys.length wc, .int .u64 q.next]) rx_row_69_2 (M.at (i := 5) rfl))) ?_; clear F a; intro a F
    refine list_do (F.wants 188 false rfl (by kernel_rfl) rfl true rfl) (fun K hK => ?_)
    refine ow_call rfl rfl F 24 #[.pointer (some ⟨g17, 0, none⟩), .agg #[.slice wA q.keys.length wc, .int .u64 q.next]] (ex_call 24 _ _ rfl rfl rx_ent_24 _ (map2 (F.e rfl) (F.e rfl))) (placed_any own w.heap.size lw g15 g17 tn wA wc q.keys _ S_ q.next (by omega)) (fun e u hR => ?_)
    obtain ⟨he, S2, x_, ho, hx_⟩ := hR
    refine ⟨.bool true, he, ?_⟩; clear he F a; intro a F
    refine hK _ _ ?_
    clear hK K
    replace M := mm_onlyT M ho (Nat.le_refl _) M.bel.size (fun k hk => (hx_ k hk).2) ⟨⟨by show (69 : Nat) ∉ [66]; decide, by show (69 : Nat) ≠ 107; decide⟩, ⟨by show (69 : Nat) ∉ [66]; decide, by show (69 : Nat) ≠ 107; decide⟩, ⟨by show (69 : Nat) ∉ [66]; decide, by show (69 : Nat) ≠ 107; decide⟩, ⟨by show (69 : Nat) ∉ [66]; decide, by show (69 : Nat) ≠ 107; decide⟩, ⟨by show (72 : Nat) ∉ [66]; decide, by show (72 : Nat) ≠ 107; decide⟩, ⟨by show (69 : Nat) ∉ [66]; decide, by show (69 : Nat) ≠ 107; decide⟩, trivial⟩
    obtain ⟨lz, hlz⟩ : ∃ l, l = u.heap.size := ⟨_, rfl⟩
    rw [← hlz] at S2
    clear S_ ho hx_ hlz; have S_ := S2; clear S2; try clear v
    refine list_val F (F.wants 188 false rfl (by kernel_rfl) rfl true rfl) rfl rfl (.bool false) (ex_not _ _ rfl _ (F.e rfl) _ rfl) ?_; clear F a; intro a F
    refine list_val F (wn rfl) rfl rfl (.bool false) (ex_pick_f _ _ _ rfl (F.e rfl) _ (F.e rfl)) ?_; clear F a; intro a F
    refine wpList_nil ?_
    replace F : Fr 199 a [(0, .slice (some adt) l.length c), (2, .bool false), (3, .pointer (some ⟨g15, 0, none⟩)), (4, .pointer (some ⟨g17, 0, none⟩)), (5, .pointer (some ⟨g5, 0, none⟩)), (6, .int .i64 i), (7, .pointer (some ⟨g7, 0, none⟩)), (8, .pointer (some ⟨g8, 0, none⟩)), (9, .int .i64 0), (10, .pointer (some ⟨g10, 0, none⟩)), (11, .pointer (some ⟨g11, 0, none⟩)), (12, .int .i64 0), (13, .pointer (some ⟨g13, 0, none⟩)), (26, .bool true), (38, .int .i64 act), (39, .bool false), (50, .bool false), (79, .bool false), (93, .bool false), (122, .bool false), (129, .bool true), (137, .bool false), (147, .bool false), (158, .bool false), (193, .bool false)] := F.keep ⟨rfl, rfl, rfl, rfl, rfl, rfl, rfl, rfl, rfl, rfl, rfl, rfl, rfl, rfl, rfl, rfl, rfl, rfl, rfl, rfl, rfl, rfl, rfl, rfl, rfl, trivial⟩
    refine then_n ?_
    refine wp_cond_false (F.e rfl) ?_
    refine wp_skip ?_
    refine in_n ?_
    refine then_n ?_
    refine wp_region_lit ?_
    refine list_val F (wn rfl) rfl rfl (.int .i64 i) (ex_move _ rfl _ (F.e rfl)) ?_; clear F a; intro a F
    refine list_val F (wn rfl) rfl rfl (.int .i64 (i + 1)) (ex_bin .add _ _ _ _ rfl .i64 _ _ (F.e rfl) rfl _ (b_add (w_i64 (by omega) (by omega)))) ?_; clear F a; intro a F
    refine list_val F (wn rfl) rfl rfl (.int .i64 (i + 1)) (ex_assign _ rfl _ (F.e rfl)) ?_; clear F a; intro a F
    refine wpList_nil ?_
    refine then_n ?_
    exact ⟨l.length - (i + 1), by omega, (i + 1), own, lz, tn, wA, wc, q.keys, q.next, F.keep ⟨rfl, rfl, rfl, rfl, rfl, rfl, trivial⟩, (by refine M.pick' [5] _ ?_ (by decide); exact ⟨rfl, trivial⟩), S_, (by omega), (by omega), (by omega), (by omega), (by omega), (by omega)⟩
   refine wp_region_lit ?_
   refine list_val F (wn rfl) rfl rfl (.bool false) (ex_bin .eql _ _ _ _ rfl .i64 _ _ (F.e rfl) rfl _ (b_eql (beq_eq_false_iff_ne.2 ha6))) ?_; clear F a; intro a F
   refine list_val F (wn rfl) rfl rfl (.bool false) (ex_assign _ rfl _ (F.e rfl)) ?_; clear F a; intro a F
   refine wpList_nil ?_
   refine then_n ?_
   refine wp_cond_false (F.e rfl) ?_
   refine wp_skip ?_
   refine in_n ?_
   refine then_n ?_
   refine wp_seq ?_
   refine wp_seq ?_
   refine wp_region_lit ?_
   refine list_val F (wn rfl) rfl rfl (.pointer (some ⟨g10, 0, none⟩)) (ex_fa _ _ _ rfl _ (F.e rfl) 0 rx_fa_69_0_0 ⟨g10, 0, none⟩ rfl) ?_; clear F a; intro a F
   refine list_val F (wn rfl) rfl rfl (.slice XA rks.length xc) (ex_load _ _ rfl _ (F.e rfl) _ (lv1 rx_one_55 (M.cell (i := 2) rfl (j := 0) rfl))) ?_; clear F a; intro a F
   refine list_val F (wn rfl) rfl rfl (.pointer (some ⟨g5, 0, none⟩)) (ex_fa _ _ _ rfl _ (F.e rfl) 0 rx_fa_69_0_0 ⟨g5, 0, none⟩ rfl) ?_; clear F a; intro a F
   refine list_val F (wn rfl) rfl rfl (.slice RA rks.length rc) (ex_load _ _ rfl _ (F.e rfl) _ (lv1 rx_one_55 (M.cell (i := 5) rfl (j := 0) rfl))) ?_; clear F a; intro a F
   refine list_do (wn rfl) (fun K hK => ?_)
   refine ow_call rfl rfl F 19 #[.slice XA rks.length xc, .slice RA rks.length rc] (ex_call 19 _ _ rfl rfl rx_ent_19 _ (map2 (F.e rfl) (F.e rfl))) (backKeys_any rks _ xc _ rc _ (Ow.rd (k := kKey) O_x).1 (Ow.rd (k := kKey) O_x).2.2 S_.rd S_.rc (by omega)) (fun e u hR => ?_)
   obtain ⟨he, hb⟩ := hR
   refine ⟨.bool true, he, ?_⟩; clear he F a; intro a F
   refine hK _ _ ?_
   clear hK K
   replace S_ := S_.below hb
   replace O_x := O_x.below hb
   replace M := M.below hb; clear hb; try clear v
   refine list_val F (wn rfl) rfl rfl (.bool false) (ex_not _ _ rfl _ (F.e rfl) _ rfl) ?_; clear F a; intro a F
   refine wpList_nil ?_
   refine then_n ?_
   refine wp_cond_false (F.e rfl) ?_
   refine wp_skip ?_
   refine then_n ?_
   refine wp_seq ?_
   refine wp_region_lit ?_
   refine list_val F (wn rfl) rfl rfl (.pointer (some ⟨g10, 0, none⟩)) (ex_fa _ _ _ rfl _ (F.e rfl) 0 rx_fa_69_0_0 ⟨g10, 0, none⟩ rfl) ?_; clear F a; intro a F
   refine list_val F (wn rfl) rfl rfl (.slice XA rks.length xc) (ex_load _ _ rfl _ (F.e rfl) _ (lv1 rx_one_55 (M.cell (i := 2) rfl (j := 0) rfl))) ?_; clear F a; intro a F
   refine list_do (wn rfl) (fun K hK => ?_)
   refine ow_call rfl rfl F 20 #[.slice XA rks.length xc] (ex_call 20 _ _ rfl rfl rx_ent_20 _ (map1 (F.e rfl))) (over_own O_x (by omega)) (fun e v hR => ?_)
   obtain ⟨he, gx, cx, hcx, hbx, hox, hgr⟩ := hR
   refine ⟨.tuple #[], he, ?_⟩; clear he F a; intro a F
   refine hK _ _ ?_
   clear hK K
   replace S_ := S_.over hcx hlx hbx hgr
   replace M := mm_grows M (base := w.heap.size) (Nat.le_refl _) ⟨.inl (by show (69 : Nat) ≠ 107; decide), .inl (by show (69 : Nat) ≠ 107; decide), .inl (by show (69 : Nat) ≠ 107; decide), .inl (by show (69 : Nat) ≠ 107; decide), .inl (by show (72 : Nat) ≠ 107; decide), .inl (by show (69 : Nat) ≠ 107; decide), trivial⟩ ⟨some gx, hgr, fun g e => by injection e with e; subst e; exact ⟨Nat.le_trans S_.lim.1 (Nat.le_trans hlx hbx), cx, hcx⟩⟩
   clear O_x hcx hgr; try clear u
   refine wpList_nil ?_
   refine then_n ?_
   refine wp_seq ?_
   refine wp_seq ?_
   by_cases hap : 1 ≤ act
   ·
    refine wp_region_lit ?_
    refine list_val F (wn rfl) rfl rfl (.pointer (some ⟨g7, 0, none⟩)) (ex_fa _ _ _ rfl _ (F.e rfl) 0 rx_fa_72_0_0 ⟨g7, 0, none⟩ rfl) ?_; clear F a; intro a F
    refine list_val F (wn rfl) rfl rfl (.int .i64 act) (ex_load _ _ rfl _ (F.e rfl) _ (lv1 rx_one_3 (M.cell (i := 4) rfl (j := 0) rfl))) ?_; clear F a; intro a F
    refine list_val F (wn rfl) rfl rfl (.bool true) (ex_bin .geq _ _ _ _ rfl .i64 _ _ (F.e rfl) rfl _ (b_geq (decide_eq_true (by omega)))) ?_; clear F a; intro a F
    refine list_val F (wn rfl) rfl rfl (.bool true) (ex_move _ rfl _ (F.e rfl)) ?_; clear F a; intro a F
    refine list_val F (F.wants 154 true rfl (by kernel_rfl) rfl true rfl) rfl rfl (.pointer (some ⟨g7, 0, none⟩)) (ex_fa _ _ _ rfl _ (F.e rfl) 0 rx_fa_72_0_0 ⟨g7, 0, none⟩ rfl) ?_; clear F a; intro a F
    refine list_val F (F.wants 154 true rfl (by kernel_rfl) rfl true rfl) rfl rfl (.int .i64 act) (ex_load _ _ rfl _ (F.e rfl) _ (lv1 rx_one_3 (M.cell (i := 4) rfl (j := 0) rfl))) ?_; clear F a; intro a F
    refine list_val F (F.wants 154 true rfl (by kernel_rfl) rfl true rfl) rfl rfl (.bool false) (ex_bin .leq _ _ _ _ rfl .i64 _ _ (F.e rfl) rfl _ (b_leq (decide_eq_false (by omega)))) ?_; clear F a; intro a F
    refine list_val F (wn rfl) rfl rfl (.bool false) (ex_pick_t _ _ _ rfl (F.e rfl) _ (F.e rfl)) ?_; clear F a; intro a F
    refine wpList_nil ?_
    refine then_n ?_
    refine wp_cond_false (F.e rfl) ?_
    refine wp_skip ?_
    refine then_n ?_
    refine wp_seq ?_
    refine wp_region_lit ?_
    refine list_val F (wn rfl) rfl rfl (.agg #[.slice RA rks.length rc, .int .u64 rnx]) (ex_load _ _ rfl _ (F.e rfl) _ (lvr (cs := [.slice RA rks.length rc, .int .u64 rnx]) rx_row_69_2 (M.at (i := 3) rfl))) ?_; clear F a; intro a F
    refine list_do (wn rfl) (fun K hK => ?_)
    refine ow_put F M rfl 69 _ _ rfl 5 _ #[.slice RA rks.length rc, .int .u64 rnx] _ rfl (F.e rfl) #[.slice RA rks.length rc, .int .u64 rnx] (F.e rfl) (sz_row (m := 2) rx_row_69_2) rfl (by simp [Value.oneCell']) ?_
    clear F a; have Mo := M; clear M; intro a u F M hgr
    refine hK _ _ ?_
    clear hK K
    replace S_ := S_.grown (Mo.blk 5 _ rfl) (by show (69 : Nat) ≠ 50 ∧ (69 : Nat) ≠ 55 ∧ (69 : Nat) ≠ 3 ∧ (69 : Nat) ≠ 66 ∧ (69 : Nat) ≠ 107; decide) hgr
    clear Mo hgr; try clear v
    replace M : Mm w u [⟨g13, #[.slice none 0 0, .int .u64 0], 69⟩, ⟨g11, #[.slice RA rks.length rc, .int .u64 rnx], 69⟩, ⟨g10, #[.slice XA rks.length xc, .int .u64 rnx], 69⟩, ⟨g8, #[.slice RA rks.length rc, .int .u64 rnx], 69⟩, ⟨g7, (stepCs act s tm kid (.slice B ks.length b) next).toArray, 72⟩, ⟨g5, #[.slice RA rks.length rc, .int .u64 rnx], 69⟩] := M
    refine wpList_nil ?_
    refine then_n ?_
    refine wp_seq ?_
    refine wp_region_lit ?_
    refine list_val F (wn rfl) rfl rfl (.agg #[.slice RA rks.length rc, .int .u64 rnx]) (ex_load _ _ rfl _ (F.e rfl) _ (lvr (cs := [.slice RA rks.length rc, .int .u64 rnx]) rx_row_69_2 (M.at (i := 5) rfl))) ?_; clear F a; intro a F
    refine list_val F (wn rfl) rfl rfl (.pointer (some ⟨g7, 34, none⟩)) (ex_fa _ _ _ rfl _ (F.e rfl) 34 rx_fa_72_3_34 ⟨g7, 34, none⟩ rfl) ?_; clear F a; intro a F
    refine list_val F (wn rfl) rfl rfl (.int .u64 kid) (ex_load _ _ rfl _ (F.e rfl) _ (lv1 rx_one_67 (M.cell (i := 4) rfl (j := 34) step_a34))) ?_; clear F a; intro a F
    refine list_do (wn rfl) (fun K hK => ?_)
    refine ow_call rfl rfl F 17 #[.agg #[.slice RA rks.length rc, .int .u64 rnx], .int .u64 kid] (ex_call 17 _ _ rfl rfl rx_ent_17 _ (map2 (F.e rfl) (F.e rfl))) (asks_any rks RA rc rnx kid _ S_.rd S_.rc (by omega)) (fun e v hR => ?_)
    obtain ⟨he, hb⟩ := hR
    refine ⟨.bool true, he, ?_⟩; clear he F a; intro a F
    refine hK _ _ ?_
    clear hK K
    replace S_ := S_.below hb
    replace M := M.below hb; clear hb; try clear u
    refine list_val F (wn rfl) rfl rfl (.bool false) (ex_not _ _ rfl _ (F.e rfl) _ rfl) ?_; clear F a; intro a F
    refine list_val F (wn rfl) rfl rfl (.bool false) (ex_move _ rfl _ (F.e rfl)) ?_; clear F a; intro a F
    refine list_val F (F.wants 188 false rfl (by kernel_rfl) rfl true rfl) rfl rfl (.pointer (some ⟨g17, 0, none⟩)) (ex_move _ rfl _ (F.e rfl)) ?_; clear F a; intro a F
    refine list_val F (F.wants 188 false rfl (by kernel_rfl) rfl true rfl) rfl rfl (.agg #[.slice RA rks.length rc, .int .u64 rnx]) (ex_load _ _ rfl _ (F.e rfl) _ (lvr (cs := [.slice RA rks.length rc, .int .u64 rnx]) rx_row_69_2 (M.at (i := 5) rfl))) ?_; clear F a; intro a F
    refine list_do (F.wants 188 false rfl (by kernel_rfl) rfl true rfl) (fun K hK => ?_)
    refine ow_call rfl rfl F 24 #[.pointer (some ⟨g17, 0, none⟩), .agg #[.slice RA rks.length rc, .int .u64 rnx]] (ex_call 24 _ _ rfl rfl rx_ent_24 _ (map2 (F.e rfl) (F.e rfl))) (placed_any own w.heap.size lim g15 g17 tn RA rc rks _ S_ rnx (by omega)) (fun e u hR => ?_)
    obtain ⟨he, S2, x_, ho, hx_⟩ := hR
    refine ⟨.bool true, he, ?_⟩; clear he F a; intro a F
    refine hK _ _ ?_
    clear hK K
    replace M := mm_onlyT M ho (Nat.le_refl _) M.bel.size (fun k hk => (hx_ k hk).2) ⟨⟨by show (69 : Nat) ∉ [66]; decide, by show (69 : Nat) ≠ 107; decide⟩, ⟨by show (69 : Nat) ∉ [66]; decide, by show (69 : Nat) ≠ 107; decide⟩, ⟨by show (69 : Nat) ∉ [66]; decide, by show (69 : Nat) ≠ 107; decide⟩, ⟨by show (69 : Nat) ∉ [66]; decide, by show (69 : Nat) ≠ 107; decide⟩, ⟨by show (72 : Nat) ∉ [66]; decide, by show (72 : Nat) ≠ 107; decide⟩, ⟨by show (69 : Nat) ∉ [66]; decide, by show (69 : Nat) ≠ 107; decide⟩, trivial⟩
    obtain ⟨lz, hlz⟩ : ∃ l, l = u.heap.size := ⟨_, rfl⟩
    rw [← hlz] at S2
    clear S_ ho hx_ hlz; have S_ := S2; clear S2; try clear v
    refine list_val F (F.wants 188 false rfl (by kernel_rfl) rfl true rfl) rfl rfl (.bool false) (ex_not _ _ rfl _ (F.e rfl) _ rfl) ?_; clear F a; intro a F
    refine list_val F (wn rfl) rfl rfl (.bool false) (ex_pick_f _ _ _ rfl (F.e rfl) _ (F.e rfl)) ?_; clear F a; intro a F
    refine wpList_nil ?_
    refine then_n ?_
    refine wp_cond_false (F.e rfl) ?_
    refine wp_skip ?_
    refine in_n ?_
    refine then_n ?_
    refine wp_region_lit ?_
    refine list_val F (wn rfl) rfl rfl (.int .i64 i) (ex_move _ rfl _ (F.e rfl)) ?_; clear F a; intro a F
    refine list_val F (wn rfl) rfl rfl (.int .i64 (i + 1)) (ex_bin .add _ _ _ _ rfl .i64 _ _ (F.e rfl) rfl _ (b_add (w_i64 (by omega) (by omega)))) ?_; clear F a; intro a F
    refine list_val F (wn rfl) rfl rfl (.int .i64 (i + 1)) (ex_assign _ rfl _ (F.e rfl)) ?_; clear F a; intro a F
    refine wpList_nil ?_
    refine then_n ?_
    exact ⟨l.length - (i + 1), by omega, (i + 1), own, lz, tn, RA, rc, rks, rnx, F.keep ⟨rfl, rfl, rfl, rfl, rfl, rfl, trivial⟩, (by refine M.pick' [5] _ ?_ (by decide); exact ⟨rfl, trivial⟩), S_, (by omega), (by omega), (by omega), (by omega), (by omega), (by omega)⟩
   refine wp_region_lit ?_
   refine list_val F (wn rfl) rfl rfl (.pointer (some ⟨g7, 0, none⟩)) (ex_fa _ _ _ rfl _ (F.e rfl) 0 rx_fa_72_0_0 ⟨g7, 0, none⟩ rfl) ?_; clear F a; intro a F
   refine list_val F (wn rfl) rfl rfl (.int .i64 act) (ex_load _ _ rfl _ (F.e rfl) _ (lv1 rx_one_3 (M.cell (i := 4) rfl (j := 0) rfl))) ?_; clear F a; intro a F
   refine list_val F (wn rfl) rfl rfl (.bool false) (ex_bin .geq _ _ _ _ rfl .i64 _ _ (F.e rfl) rfl _ (b_geq (decide_eq_false (by omega)))) ?_; clear F a; intro a F
   refine list_val F (wn rfl) rfl rfl (.bool false) (ex_move _ rfl _ (F.e rfl)) ?_; clear F a; intro a F
   refine list_skip F (F.wants 154 false rfl (by kernel_rfl) rfl false rfl) rfl rfl ?_; clear F a; intro a F
   refine list_skip F (F.wants 154 false rfl (by kernel_rfl) rfl false rfl) rfl rfl ?_; clear F a; intro a F
   refine list_skip F (F.wants 154 false rfl (by kernel_rfl) rfl false rfl) rfl rfl ?_; clear F a; intro a F
   refine list_val F (wn rfl) rfl rfl (.bool false) (ex_pick_f _ _ _ rfl (F.e rfl) _ rfl) ?_; clear F a; intro a F
   refine wpList_nil ?_
   replace F : Fr 199 a [(0, .slice (some adt) l.length c), (2, .bool false), (3, .pointer (some ⟨g15, 0, none⟩)), (4, .pointer (some ⟨g17, 0, none⟩)), (5, .pointer (some ⟨g5, 0, none⟩)), (6, .int .i64 i), (7, .pointer (some ⟨g7, 0, none⟩)), (8, .pointer (some ⟨g8, 0, none⟩)), (9, .int .i64 0), (10, .pointer (some ⟨g10, 0, none⟩)), (11, .pointer (some ⟨g11, 0, none⟩)), (12, .int .i64 0), (13, .pointer (some ⟨g13, 0, none⟩)), (26, .bool true), (38, .int .i64 act), (39, .bool false), (50, .bool false), (79, .bool false), (93, .bool false), (122, .bool false), (129, .bool false), (147, .bool false), (158, .bool false)] := F.keep ⟨rfl, rfl, rfl, rfl, rfl, rfl, rfl, rfl, rfl, rfl, rfl, rfl, rfl, rfl, rfl, rfl, rfl, rfl, rfl, rfl, rfl, rfl, rfl, trivial⟩
   refine then_n ?_
   refine wp_cond_false (F.e rfl) ?_
   refine wp_skip ?_
   refine then_n ?_
   refine wp_seq ?_
   refine wp_region_lit ?_
   refine list_val F (wn rfl) rfl rfl (.agg #[.slice RA rks.length rc, .int .u64 rnx]) (ex_load _ _ rfl _ (F.e rfl) _ (lvr (cs := [.slice RA rks.length rc, .int .u64 rnx]) rx_row_69_2 (M.at (i := 3) rfl))) ?_; clear F a; intro a F
   refine list_do (wn rfl) (fun K hK => ?_)
   refine ow_put F M rfl 69 _ _ rfl 5 _ #[.slice RA rks.length rc, .int .u64 rnx] _ rfl (F.e rfl) #[.slice RA rks.length rc, .int .u64 rnx] (F.e rfl) (sz_row (m := 2) rx_row_69_2) rfl (by simp [Value.oneCell']) ?_
   clear F a; have Mo := M; clear M; intro a u F M hgr
   refine hK _ _ ?_
   clear hK K
   replace S_ := S_.grown (Mo.blk 5 _ rfl) (by show (69 : Nat) ≠ 50 ∧ (69 : Nat) ≠ 55 ∧ (69 : Nat) ≠ 3 ∧ (69 : Nat) ≠ 66 ∧ (69 : Nat) ≠ 107; decide) hgr
   clear Mo hgr; try clear v
   replace M : Mm w u [⟨g13, #[.slice none 0 0, .int .u64 0], 69⟩, ⟨g11, #[.slice RA rks.length rc, .int .u64 rnx], 69⟩, ⟨g10, #[.slice XA rks.length xc, .int .u64 rnx], 69⟩, ⟨g8, #[.slice RA rks.length rc, .int .u64 rnx], 69⟩, ⟨g7, (stepCs act s tm kid (.slice B ks.length b) next).toArray, 72⟩, ⟨g5, #[.slice RA rks.length rc, .int .u64 rnx], 69⟩] := M
   refine wpList_nil ?_
   refine then_n ?_
   refine wp_seq ?_
   refine wp_region_lit ?_
   refine list_val F (wn rfl) rfl rfl (.agg #[.slice RA rks.length rc, .int .u64 rnx]) (ex_load _ _ rfl _ (F.e rfl) _ (lvr (cs := [.slice RA rks.length rc, .int .u64 rnx]) rx_row_69_2 (M.at (i := 5) rfl))) ?_; clear F a; intro a F
   refine list_val F (wn rfl) rfl rfl (.pointer (some ⟨g7, 34, none⟩)) (ex_fa _ _ _ rfl _ (F.e rfl) 34 rx_fa_72_3_34 ⟨g7, 34, none⟩ rfl) ?_; clear F a; intro a F
   refine list_val F (wn rfl) rfl rfl (.int .u64 kid) (ex_load _ _ rfl _ (F.e rfl) _ (lv1 rx_one_67 (M.cell (i := 4) rfl (j := 34) step_a34))) ?_; clear F a; intro a F
   refine list_do (wn rfl) (fun K hK => ?_)
   refine ow_call rfl rfl F 17 #[.agg #[.slice RA rks.length rc, .int .u64 rnx], .int .u64 kid] (ex_call 17 _ _ rfl rfl rx_ent_17 _ (map2 (F.e rfl) (F.e rfl))) (asks_any rks RA rc rnx kid _ S_.rd S_.rc (by omega)) (fun e v hR => ?_)
   obtain ⟨he, hb⟩ := hR
   refine ⟨.bool true, he, ?_⟩; clear he F a; intro a F
   refine hK _ _ ?_
   clear hK K
   replace S_ := S_.below hb
   replace M := M.below hb; clear hb; try clear u
   refine list_val F (wn rfl) rfl rfl (.bool false) (ex_not _ _ rfl _ (F.e rfl) _ rfl) ?_; clear F a; intro a F
   refine list_val F (wn rfl) rfl rfl (.bool false) (ex_move _ rfl _ (F.e rfl)) ?_; clear F a; intro a F
   refine list_val F (F.wants 188 false rfl (by kernel_rfl) rfl true rfl) rfl rfl (.pointer (some ⟨g17, 0, none⟩)) (ex_move _ rfl _ (F.e rfl)) ?_; clear F a; intro a F
   refine list_val F (F.wants 188 false rfl (by kernel_rfl) rfl true rfl) rfl rfl (.agg #[.slice RA rks.length rc, .int .u64 rnx]) (ex_load _ _ rfl _ (F.e rfl) _ (lvr (cs := [.slice RA rks.length rc, .int .u64 rnx]) rx_row_69_2 (M.at (i := 5) rfl))) ?_; clear F a; intro a F
   refine list_do (F.wants 188 false rfl (by kernel_rfl) rfl true rfl) (fun K hK => ?_)
   refine ow_call rfl rfl F 24 #[.pointer (some ⟨g17, 0, none⟩), .agg #[.slice RA rks.length rc, .int .u64 rnx]] (ex_call 24 _ _ rfl rfl rx_ent_24 _ (map2 (F.e rfl) (F.e rfl))) (placed_any own w.heap.size lim g15 g17 tn RA rc rks _ S_ rnx (by omega)) (fun e u hR => ?_)
   obtain ⟨he, S2, x_, ho, hx_⟩ := hR
   refine ⟨.bool true, he, ?_⟩; clear he F a; intro a F
   refine hK _ _ ?_
   clear hK K
   replace M := mm_onlyT M ho (Nat.le_refl _) M.bel.size (fun k hk => (hx_ k hk).2) ⟨⟨by show (69 : Nat) ∉ [66]; decide, by show (69 : Nat) ≠ 107; decide⟩, ⟨by show (69 : Nat) ∉ [66]; decide, by show (69 : Nat) ≠ 107; decide⟩, ⟨by show (69 : Nat) ∉ [66]; decide, by show (69 : Nat) ≠ 107; decide⟩, ⟨by show (69 : Nat) ∉ [66]; decide, by show (69 : Nat) ≠ 107; decide⟩, ⟨by show (72 : Nat) ∉ [66]; decide, by show (72 : Nat) ≠ 107; decide⟩, ⟨by show (69 : Nat) ∉ [66]; decide, by show (69 : Nat) ≠ 107; decide⟩, trivial⟩
   obtain ⟨lz, hlz⟩ : ∃ l, l = u.heap.size := ⟨_, rfl⟩
   rw [← hlz] at S2
   clear S_ ho hx_ hlz; have S_ := S2; clear S2; try clear v
   refine list_val F (F.wants 188 false rfl (by kernel_rfl) rfl true rfl) rfl rfl (.bool false) (ex_not _ _ rfl _ (F.e rfl) _ rfl) ?_; clear F a; intro a F
   refine list_val F (wn rfl) rfl rfl (.bool false) (ex_pick_f _ _ _ rfl (F.e rfl) _ (F.e rfl)) ?_; clear F a; intro a F
   refine wpList_nil ?_
   refine then_n ?_
   refine wp_cond_false (F.e rfl) ?_
   refine wp_skip ?_
   refine in_n ?_
   refine then_n ?_
   refine wp_region_lit ?_
   refine list_val F (wn rfl) rfl rfl (.int .i64 i) (ex_move _ rfl _ (F.e rfl)) ?_; clear F a; intro a F
   refine list_val F (wn rfl) rfl rfl (.int .i64 (i + 1)) (ex_bin .add _ _ _ _ rfl .i64 _ _ (F.e rfl) rfl _ (b_add (w_i64 (by omega) (by omega)))) ?_; clear F a; intro a F
   refine list_val F (wn rfl) rfl rfl (.int .i64 (i + 1)) (ex_assign _ rfl _ (F.e rfl)) ?_; clear F a; intro a F
   refine wpList_nil ?_
   refine then_n ?_
   exact ⟨l.length - (i + 1), by omega, (i + 1), own, lz, tn, RA, rc, rks, rnx, F.keep ⟨rfl, rfl, rfl, rfl, rfl, rfl, trivial⟩, (by refine M.pick' [5] _ ?_ (by decide); exact ⟨rfl, trivial⟩), S_, (by omega), (by omega), (by omega), (by omega), (by omega), (by omega)⟩
  refine wp_seq ?_
  refine wp_seq ?_
  refine wp_region_lit ?_
  refine list_val F (wn rfl) rfl rfl (.int .i64 i) (ex_move _ rfl _ (F.e rfl)) ?_; clear F a; intro a F
  refine list_val F (wn rfl) rfl rfl (.slice A l.length c) (ex_move _ rfl _ (F.e rfl)) ?_; clear F a; intro a F
  refine list_val F (wn rfl) rfl rfl (.int .i64 ((l.length : Nat) : Int)) (ex_len _ _ rfl 37 rx_sl_22_37 _ _ _ (F.e rfl)) ?_; clear F a; intro a F
  refine list_val F (wn rfl) rfl rfl (.bool true) (ex_bin .lss _ _ _ _ rfl .i64 _ _ (F.e rfl) (F.e rfl) _ (b_lss (decide_eq_true (by omega)))) ?_; clear F a; intro a F
  refine list_val F (wn rfl) rfl rfl (.bool true) (ex_move _ rfl _ (F.e rfl)) ?_; clear F a; intro a F
  refine list_val F (F.wants 23 true rfl (by kernel_rfl) rfl true rfl) rfl rfl (.int .i64 i) (ex_move _ rfl _ (F.e rfl)) ?_; clear F a; intro a F
  refine list_val F (F.wants 23 true rfl (by kernel_rfl) rfl true rfl) rfl rfl (.bool false) (ex_bin .lss _ _ _ _ rfl .i64 _ _ (F.e rfl) rfl _ (b_lss (decide_eq_false (by omega)))) ?_; clear F a; intro a F
  refine list_val F (wn rfl) rfl rfl (.bool false) (ex_pick_t _ _ _ rfl (F.e rfl) _ (F.e rfl)) ?_; clear F a; intro a F
  refine wpList_nil ?_
  refine then_n ?_
  refine wp_cond_false (F.e rfl) ?_
  refine wp_exit ?_
  refine then_x ?_
  refine then_x ?_
  refine in_hit ?_
  refine then_n ?_
  refine wp_seq ?_
  refine wp_region_lit ?_
  refine list_val F (wn rfl) rfl rfl (.pointer (some ⟨g15, 0, none⟩)) (ex_move _ rfl _ (F.e rfl)) ?_; clear F a; intro a F
  refine list_do (wn rfl) (fun K hK => ?_)
  refine ow_call rfl rfl F 25 #[.pointer (some ⟨g15, 0, none⟩)] (ex_call 25 _ _ rfl rfl rx_ent_25 _ (map1 (F.e rfl))) (look_st S_ (by omega)) (fun e u hR => ?_)
  obtain ⟨he, hb⟩ := hR
  refine ⟨.bool true, he, ?_⟩; clear he F a; intro a F
  refine hK _ _ ?_
  clear hK K
  have hfin := M.bel.trans hb
  clear S_; replace M := mm_end M hb; try clear v
  refine list_val F (wn rfl) rfl rfl (.bool true) (ex_move _ rfl _ (F.e rfl)) ?_; clear F a; intro a F
  refine list_do (F.wants 196 true rfl (by kernel_rfl) rfl true rfl) (fun K hK => ?_)
  refine ow_call rfl rfl F 26 #[] (ex_call 26 _ _ rfl rfl rx_ent_26 _ (map0)) (wakes_any _) (fun e v hR => ?_)
  obtain ⟨he, hb⟩ := hR
  refine ⟨.bool true, he, ?_⟩; clear he F a; intro a F
  refine hK _ _ ?_
  clear hK K
  replace M := M.below hb; clear hb; try clear u
  refine list_val F (wn rfl) rfl rfl (.bool true) (ex_pick_t _ _ _ rfl (F.e rfl) _ (F.e rfl)) ?_; clear F a; intro a F
  refine list_val F (wn rfl) rfl rfl (.bool true) (ex_assign _ rfl _ (F.e rfl)) ?_; clear F a; intro a F
  refine wpList_nil ?_
  refine then_n ?_
  refine wp_ret ?_
  exact ret_tmp F rfl rfl ⟨rfl, M.bel⟩
 refine wp_seq ?_
 refine wp_seq ?_
 refine wp_region_lit ?_
 refine list_val F (wn rfl) rfl rfl (.int .i64 i) (ex_move _ rfl _ (F.e rfl)) ?_; clear F a; intro a F
 refine list_val F (wn rfl) rfl rfl (.slice A l.length c) (ex_move _ rfl _ (F.e rfl)) ?_; clear F a; intro a F
 refine list_val F (wn rfl) rfl rfl (.int .i64 ((l.length : Nat) : Int)) (ex_len _ _ rfl 37 rx_sl_22_37 _ _ _ (F.e rfl)) ?_; clear F a; intro a F
 refine list_val F (wn rfl) rfl rfl (.bool false) (ex_bin .lss _ _ _ _ rfl .i64 _ _ (F.e rfl) (F.e rfl) _ (b_lss (decide_eq_false (by omega)))) ?_; clear F a; intro a F
 refine list_val F (wn rfl) rfl rfl (.bool false) (ex_move _ rfl _ (F.e rfl)) ?_; clear F a; intro a F
 refine list_skip F (F.wants 23 false rfl (by kernel_rfl) rfl false rfl) rfl rfl ?_; clear F a; intro a F
 refine list_skip F (F.wants 23 false rfl (by kernel_rfl) rfl false rfl) rfl rfl ?_; clear F a; intro a F
 refine list_val F (wn rfl) rfl rfl (.bool false) (ex_pick_f _ _ _ rfl (F.e rfl) _ rfl) ?_; clear F a; intro a F
 refine wpList_nil ?_
 refine then_n ?_
 refine wp_cond_false (F.e rfl) ?_
 refine wp_exit ?_
 refine then_x ?_
 refine then_x ?_
 refine in_hit ?_
 refine then_n ?_
 refine wp_seq ?_
 refine wp_region_lit ?_
 refine list_val F (wn rfl) rfl rfl (.pointer (some ⟨g15, 0, none⟩)) (ex_move _ rfl _ (F.e rfl)) ?_; clear F a; intro a F
 refine list_do (wn rfl) (fun K hK => ?_)
 refine ow_call rfl rfl F 25 #[.pointer (some ⟨g15, 0, none⟩)] (ex_call 25 _ _ rfl rfl rx_ent_25 _ (map1 (F.e rfl))) (look_st S_ (by omega)) (fun e u hR => ?_)
 obtain ⟨he, hb⟩ := hR
 refine ⟨.bool true, he, ?_⟩; clear he F a; intro a F
 refine hK _ _ ?_
 clear hK K
 have hfin := M.bel.trans hb
 clear S_; replace M := mm_end M hb; try clear v
 refine list_val F (wn rfl) rfl rfl (.bool true) (ex_move _ rfl _ (F.e rfl)) ?_; clear F a; intro a F
 refine list_do (F.wants 196 true rfl (by kernel_rfl) rfl true rfl) (fun K hK => ?_)
 refine ow_call rfl rfl F 26 #[] (ex_call 26 _ _ rfl rfl rx_ent_26 _ (map0)) (wakes_any _) (fun e v hR => ?_)
 obtain ⟨he, hb⟩ := hR
 refine ⟨.bool true, he, ?_⟩; clear he F a; intro a F
 refine hK _ _ ?_
 clear hK K
 replace M := M.below hb; clear hb; try clear u
 refine list_val F (wn rfl) rfl rfl (.bool true) (ex_pick_t _ _ _ rfl (F.e rfl) _ (F.e rfl)) ?_; clear F a; intro a F
 refine list_val F (wn rfl) rfl rfl (.bool true) (ex_assign _ rfl _ (F.e rfl)) ?_; clear F a; intro a F
 refine wpList_nil ?_
 replace F : Fr 199 a [(0, .slice A l.length c), (2, .bool true), (3, .pointer (some ⟨g15, 0, none⟩)), (4, .pointer (some ⟨g17, 0, none⟩)), (5, .pointer (some ⟨g5, 0, none⟩)), (6, .int .i64 i), (26, .bool false)] := F.keep ⟨rfl, rfl, rfl, rfl, rfl, rfl, rfl, trivial⟩
 refine then_n ?_
 refine wp_ret ?_
 exact ret_tmp F rfl rfl ⟨rfl, M.bel⟩
end Go.Proofs.Ytnechcibpmjblaa
