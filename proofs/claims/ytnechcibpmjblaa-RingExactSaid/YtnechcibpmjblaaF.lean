/- The walks of slices.Clone and slices.DeleteFunc at keys. Conditions: the keys are read, or lie in a row of the caller's own. -/
import Derived.Test.YtnechcibpmjblaaE
import Derived.Lib.SliceRun
namespace Go.Proofs.Ytnechcibpmjblaa
open Go.RowKit Go.Proofs.YtnechcibpmjblaaW.PrintWords KB
set_option linter.unusedVariables false
set_option linter.unusedSimpArgs false

/-- A row of keys of one's own. -/
def OwnKeys (w : World) (base : Nat) (v : Value) (ks : List Key) : Prop := kKey.R 107 w base (fun _ => True) v ks
theorem own_empty (W : World) (base : Nat) (h : base ≤ W.heap.size) : OwnKeys (W.alloc (.cells #[] 107)) base (.slice (some ⟨W.heap.size, 0, none⟩) 0 0) [] :=
  ⟨fun _ _ => trivial, [], ⟨rfl, .inr ⟨W.heap.size, 0, #[], rfl, h, blk_new _ _, Nat.le_refl _, by decide, rfl, rfl⟩⟩, Reps.none _ _⟩
set_option maxHeartbeats 2000000 in
set_option maxRecDepth 100000 in
theorem clone_any (ks : List Key) (ad : Addr) (c : Nat) (w : World) (hr : kKey.C w (some ad) ks.length ks) (hc : ks.length ≤ c) (hl : ks.length ≤ 1000000) :
    Calls Try.prog 34 #[.slice (some ad) ks.length c] w fun e w' => ∃ v, e = .returned v ∧ OwnKeys w' w.heap.size v ks ∧ Below w.heap.size w w' := by
  have hu107 := Try.underlying107
  have hu55 := Try.underlying55
  have hz107 := zero107
  have hnk := noKeys
  have hnil := fun w => Lib.run_eql_slice_nil (P := Try.prog) w 55 107 (some ad) ks.length c 0 0 Try.underlying55
  simp only [Option.isNone_some] at hnil
  have hR : Aside0 (kKey.C (w.alloc (.cells #[] 107)) (some ad) ks.length ks) := ⟨Kd.C_alloc hr _⟩
  have hO := Aside0.mk (own_empty w w.heap.size (Nat.le_refl _))
  clear hr
  go_enter Try.func34, Try.ntmps34
  go_wp2_with (at_builtin; refine Kd.R_append_rows kKey (w0 := w) w.heap.size rfl (.tmp 5) (.tmp 6) 55 107 _ 48 rfl Try.underlying55 info107z (by rw [show (Value.agg zKey.arr).cells = zKey.arr from rfl, Key.arr_size]; rfl) (by decide) (by decide) _ [] ks _ _ _ (fun _ => True) (fun _ => False) rfl rfl hO.out hR.out (fun _ _ h => h) (fun _ h => h.elim) (fun _ _ => trivial) (below_alloc (Below.refl _ _) _) (by simp) (by simp; omega) ?_; intro v1 w1 hv1 hb1 hg1 hat1)
  go_ret
  exact ⟨v1, rfl, hv1, hb1⟩

theorem own_block {w : World} {base g n c : Nat} {ks : List Key} (h : OwnKeys w base (.slice (some ⟨g, 0, none⟩) n c) ks) :
    n = ks.length ∧ base ≤ g ∧ n ≤ c ∧ ∃ cur, w.heap[g]? = some (.cells cur 107 (0, 0)) ∧ cur.size = c * 34 := by
  obtain ⟨hn, hnc, _⟩ := Kd.R_reads' h
  obtain ⟨_, inner, hown, _⟩ := h
  rcases hown.2 with ⟨hv, _⟩ | ⟨g', cap', cur, hv, hb, hh, _, _, hcs, _⟩
  · cases hv
  · injection hv with ha _ hc
    injection ha with ha
    injection ha with hg
    subst hg; subst hc
    exact ⟨hn, hb, hnc, cur, hh, hcs⟩
/-- What is written behind the row's length leaves the row. -/
theorem own_tail {w : World} {base g a cap : Nat} {ks : List Key} (h : OwnKeys w base (.slice (some ⟨g, 0, none⟩) a cap) ks) (L : List Value) (hfit : a * 34 + L.length ≤ cap * 34) :
    OwnKeys (w.setCells g (a * 34) L) base (.slice (some ⟨g, 0, none⟩) a cap) ks := by
  have hn := (Kd.R_reads' h).1
  obtain ⟨hok, inner, hown, hr⟩ := h
  refine ⟨fun _ _ => trivial, inner, ?_, ⟨hr.1, hr.2⟩⟩
  refine ⟨hown.1, ?_⟩
  rcases hown.2 with ⟨hv, _⟩ | ⟨g', cap', cur, hv, hb, hh, hnc, hcm, hcs, htake⟩
  · cases hv
  · injection hv with ha hnn hc
    injection ha with ha
    injection ha with hg
    subst hg; subst hc
    have hsz : kKey.sz = 34 := rfl
    rw [hsz] at hcs htake
    obtain ⟨cur', h3, h4, h5⟩ := setCells_row L (a * 34) w cur hh (by omega)
    refine .inr ⟨g, cap, cur', by rw [hnn], hb, h3, hnc, hcm, by rw [h4, hcs]; rfl, ?_⟩
    rw [hsz, h5, ← hnn, List.append_assoc, List.take_append_of_le_length (by rw [List.length_take]; simp; omega), ← htake, List.take_take, ← hnn, Nat.min_self]
theorem run_clearKeys (w : World) (ty : TypeId) {g o n c : Nat} {cur : Array Value} (hb : w.heap[g]? = some (.cells cur 107 (0, 0))) (hfit : o + n * 34 ≤ cur.size) (hn : 0 < n) :
    ∃ L : List Value, L.length = n * 34 ∧ (Builtin.clear_ #[55] ty #[.slice (some ⟨g, o, none⟩) n c]).run Try.prog w = .ok (.tuple #[]) (w.setCells g o L) := by
  refine ⟨(Builtin.zeroCells zKey.arr n).toList, by simp [Builtin.zeroCells, Key.arr_size], ?_⟩
  have hone : ∀ v ∈ (Builtin.zeroCells zKey.arr n).toList, v.oneCell' = true := by
    intro v hv
    simp only [Builtin.zeroCells, Array.toList_map, List.mem_map] at hv
    obtain ⟨i, _, rfl⟩ := hv
    have hi : i % zKey.arr.size < zKey.arr.size := Nat.mod_lt _ (by rw [Key.arr_size]; decide)
    rw [getElem!_pos zKey.arr _ hi]
    exact (Array.all_eq_true_iff_forall_mem.1 zKey.arr_one) _ (Array.getElem_mem _)
  have hlen : (Builtin.zeroCells zKey.arr n).toList.length = n * 34 := by simp [Builtin.zeroCells, Key.arr_size]
  have hst := run_storeCells_cells (P := Try.prog) g o (Builtin.zeroCells zKey.arr n).toList 0 w (fun j hj => by rw [blk_cell hb]; simp; omega) (fun j hj => blk_frozen hb _) hone
  simp only [Nat.add_zero] at hst
  obtain ⟨m, rfl⟩ : ∃ m, n = m + 1 := ⟨n - 1, by omega⟩
  have hzc : (Value.agg zKey.arr).cells = zKey.arr := rfl
  simp [Builtin.clear_, run_underlying Try.underlying55]
  change ((Sem.run Try.prog (storeCells ⟨g, o, none⟩ (Builtin.zeroCells zKey.arr (m + 1)).toList) w).andThen _) = _
  rw [hst]
  rfl

theorem take_snoc {xs : List Key} {b : Nat} (h : b < xs.length) : xs.take (b + 1) = xs.take b ++ [rdK xs (b : Int)] := by
  rw [List.take_add_one, List.getElem?_eq_getElem h, rdK_eq h]; rfl
/-- How far a deletion has come: the first a keys are those that stay of the first b; from b on all are as they were. -/
structure Half (p : Key → Bool) (ks xs : List Key) (a b : Nat) : Prop where
  len : xs.length = ks.length
  lt : a < b
  le : b ≤ ks.length
  front : xs.take a = (ks.take b).filter fun k => !p k
  back : xs.drop b = ks.drop b
theorem Half.at_ {p : Key → Bool} {ks xs : List Key} {a b : Nat} (h : Half p ks xs a b) (hb : b < ks.length) : rdK xs (b : Int) = rdK ks (b : Int) := by
  have h1 := congrArg (fun l => l[0]?) h.back
  have hl := h.len
  simp only [List.getElem?_drop, Nat.add_zero] at h1
  rw [rdK_eq (by omega), rdK_eq hb]
  rw [List.getElem?_eq_getElem (by omega), List.getElem?_eq_getElem hb] at h1
  exact Option.some.inj h1
theorem drop_next {xs ys : List Key} {b : Nat} (h : xs.drop b = ys.drop b) : xs.drop (b + 1) = ys.drop (b + 1) := by
  rw [← List.drop_drop, ← List.drop_drop, h]
theorem Half.skip {p : Key → Bool} {ks xs : List Key} {a b : Nat} (h : Half p ks xs a b) (hb : b < ks.length) (hp : p (rdK ks (b : Int)) = true) : Half p ks xs a (b + 1) :=
  ⟨h.len, by have := h.lt; omega, hb, by rw [h.front, take_snoc hb, List.filter_append]; simp [hp], drop_next h.back⟩
theorem Half.keep {p : Key → Bool} {ks xs : List Key} {a b : Nat} (h : Half p ks xs a b) (hb : b < ks.length) (hp : p (rdK ks (b : Int)) = false) : Half p ks (xs.set a (rdK ks (b : Int))) (a + 1) (b + 1) := by
  have hl := h.len
  have hlt := h.lt
  refine ⟨by rw [List.length_set]; exact hl, by omega, hb, ?_, ?_⟩
  · rw [take_snoc hb, List.filter_append, ← h.front, List.take_add_one, List.getElem?_set_self (by omega), List.take_set_of_le (Nat.le_refl _)]
    simp [hp]
  · rw [List.drop_set_of_lt (by omega)]
    exact drop_next h.back
theorem Half.start {p : Key → Bool} {ks : List Key} {i : Nat} (hi : idxF p ks = i) (hl : i < ks.length) : Half p ks ks i (i + 1) := by
  unfold idxF at hi
  cases h : ks.findIdx? p with
  | none => rw [h] at hi; simp only at hi; omega
  | some j =>
    rw [h] at hi
    obtain rfl : j = i := by simp only at hi; omega
    obtain ⟨h1, h2, h3⟩ := List.findIdx?_eq_some_iff_getElem.1 h
    refine ⟨rfl, by omega, hl, ?_, rfl⟩
    rw [take_snoc hl, List.filter_append, rdK_eq hl]
    rw [List.filter_eq_self.2]
    · simp [h2]
    · intro k hk
      obtain ⟨q, hq, rfl⟩ := List.getElem_of_mem hk
      simp only [List.length_take] at hq
      rw [List.getElem_take]
      simpa using h3 q (by omega)
theorem idx_none_filter {p : Key → Bool} {ks : List Key} (h : idxF p ks = -1) : ks.filter (fun k => !p k) = ks := by
  unfold idxF at h
  cases hf : ks.findIdx? p with
  | none =>
    rw [List.filter_eq_self]
    intro k hk
    have := List.findIdx?_eq_none_iff.1 hf k hk
    simp [this]
  | some j => rw [hf] at h; simp only at h; omega
theorem store_old {w w2 : World} {g a : Nat} {cs : List Value} (h : At w ⟨g, a * 34, none⟩ cs) (hb : Below w.heap.size w w2) : ∀ (j : Nat) (u : Value), cs[j]? = some u → w2.cell? ⟨g, (a : Int).toNat * 34 + j, none⟩ = some u := by
  intro j u hu
  have h := (h.below hb) j u hu
  rwa [Addr.add_mid] at h
theorem store_new {w : World} {B : Nat} {ok : Nat → Prop} (ky : Key) (c : List Value) (hc : c.length = 34) : kKey.M w B ok ky (c.take 0 ++ ky.cs ++ c.drop (0 + ky.cs.length)) := by
  show _ = ky.cs
  rw [List.take_zero, List.nil_append, List.drop_eq_nil_of_le (by rw [Key.cs_len, hc]; exact Nat.le_refl _), List.append_nil]
set_option maxHeartbeats 4000000 in
set_option maxRecDepth 100000 in
theorem delete_any (p : Key → Bool) (f : Nat) (caps : Array Value) (ks : List Key) (v : Value) (B : Nat) (w : World) (hO : OwnKeys w B v ks) (hB : B ≤ w.heap.size) (hne : 0 < ks.length) (hp : PaysB f caps p B w) (hl : ks.length ≤ 1000000) :
    Calls Try.prog 35 #[v, .func (.func f) #[] caps] w fun e w' => ∃ v', e = .returned v' ∧ OwnKeys w' B v' (ks.filter fun k => !p k) ∧ Below B w w' := by
  obtain ⟨g, cap, rfl, hg, hgl, _⟩ := Kd.R_form hO hne
  obtain ⟨_, hnc, hC⟩ := Kd.R_reads' hO
  have hu107 := Try.underlying107
  have hu55 := Try.underlying55
  have hz107 := zero107
  have hcall := index_any p f caps ks (some ⟨g, 0, none⟩) cap w hC hnc (hp.at_ hB (Below.refl _ _))
  have hOA := Aside0.mk hO
  have hP := Aside0.mk hp
  clear hO hp hC
  rcases idx_range p ks with hi | ⟨i, hi, hil⟩
  · rw [hi] at hcall
    rw [idx_none_filter hi]
    clear hi
    go_enter Try.func35, Try.ntmps35
    go_wp2_with (first | (go_at_call 49; refine hcall.mono ?_; rintro e w1 ⟨rfl, hb⟩))
    go_ret
    exact ⟨_, rfl, Kd.R_below hOA.out hb, ⟨hb.os, hb.tape, hb.output, hb.size, fun k hk => hb.block k (by omega)⟩⟩
  · rw [hi] at hcall
    have hst := Lib.hid (Half.start hi hil)
    have hj : ((i : Int) == -1) = false := by simp
    have hmax : ks.length ≤ 9223372036854775807 := by omega
    have j1 : (i : Int) < (ks.length : Int) := by omega
    clear hi
    go_enter Try.func35, Try.ntmps35
    go_wp2_with (first | (go_at_call 49; refine hcall.mono ?_; rintro e w1 ⟨rfl, hb⟩))
    go_loopg [5, 6] (ks.length - (i + 1)) (fun kq v5 v6 w' => ∃ (a b : Nat) (xs : List Key), v5 = .int .i64 a ∧ v6 = .int .i64 b ∧ Hid (b + kq = ks.length) ∧ Hid (Half p ks xs a b) ∧ Aside0 (OwnKeys w' B (.slice (some ⟨g, 0, none⟩) ks.length cap) xs) ∧ Aside0 (Below B w w'))
    case atStart => exact ⟨i, i + 1, ks, rfl, by go_num, Lib.hid (by omega), hst, ⟨Kd.R_below hOA.out hb⟩, ⟨⟨hb.os, hb.tape, hb.output, hb.size, fun k hk => hb.block k (by omega)⟩⟩⟩
    case round =>
      obtain ⟨a, b, xs, rfl, rfl, hkq, hH, hO, hBw⟩ := hrel
      have hHo := hH.out
      have hab := hHo.lt
      have hble := hHo.le
      have hxl := hHo.len
      have hBs : B ≤ wr.heap.size := Nat.le_trans hB hBw.out.size
      have C := (Kd.R_reads' hO.out).2.2
      rw [hxl] at C
      by_cases hc1 : b < ks.length
      · obtain ⟨ad, had, ym, y0, y33⟩ := at_Key C (b : Int) (by omega) (by omega)
        obtain rfl := Option.some.inj had
        clear had y33 y0
        rw [show (b : Int).toNat = b from rfl, add_plain, hHo.at_ hc1] at ym
        obtain ⟨_, had, zm, _, _⟩ := at_Key C (a : Int) (by omega) (by omega)
        obtain rfl := Option.some.inj had
        clear had
        rw [show (a : Int).toNat = a from rfl, add_plain] at zm
        have p1 : (b : Int) < (ks.length : Int) := by omega
        have p2 : (a : Int) < (ks.length : Int) := by omega
        have hmax : ks.length ≤ 9223372036854775807 := by omega
        have hHs := fun h => Lib.hid (hHo.skip hc1 h)
        have hHk := fun h => Lib.hid (hHo.keep hc1 h)
        generalize hky : rdK ks (b : Int) = ky at *
        have hv : At (wr.alloc (.cells ky.arr 107)) ⟨wr.heap.size, 0, none⟩ ky.cs := at_var (blk_new _ _)
        have hcall2 := hP.out.2 ky (wr.alloc (.cells ky.arr 107)) (below_then hBw.out hBs (below_alloc (Below.refl _ _) _))
        have hent := hP.out.1 ky
        have hO2 : Aside0 (OwnKeys (wr.alloc (.cells ky.arr 107)) B (.slice (some ⟨g, 0, none⟩) ks.length cap) xs) := ⟨Kd.R_alloc hO.out _⟩
        have hA := Aside0.mk (And.intro ym (And.intro hv (And.intro zm (And.intro hxl (And.intro hHs (And.intro hHk hBs))))))
        clear C hH hHo hab hble ym hv zm hxl hHs hHk hBs hky
        cases hpk : p ky
        · rw [hpk] at hcall2
          go_wp2_with (first | refine load_key rfl _ rfl _ rfl _ hA.out.1 ?_ | refine new_key rfl _ _ rfl _ _ rfl rfl ?_ | refine load_key rfl _ rfl _ rfl _ hA.out.2.1 ?_ | (refine hcall2.mono ?_; rintro e w2 ⟨rfl, hb2⟩; have hv2 := Aside0.mk (hA.out.2.1.below hb2)) | refine load_key rfl _ rfl _ rfl _ hv2.out ?_ | (refine Kd.R_store kKey (w0 := w) B rfl rfl 107 (.tmp 33) (.tmp 32) rfl 107 (a : Int) 0 xs ky (.agg ky.arr) ky.cs (rdK xs (a : Int)).cs (fun _ => True) (fun _ => False) rfl rfl rfl (by rw [Key.arr_eq]; rfl) (by rw [info107, Key.cs_len]) ky.cs_one (Kd.R_below hO2.out hb2) (by omega) (by omega) (Key.cs_len _) ?_ (by rw [Key.cs_len]; exact Nat.le_refl _) ?_ (fun _ h => h.elim) ?_ ?_; exact store_old hA.out.2.2.1 (below_step (below_alloc (Below.refl _ wr) _) hb2); exact store_new _ _ (Key.cs_len _); exact below_then hBw.out hA.out.2.2.2.2.2.2 (below_step (below_alloc (Below.refl _ wr) _) hb2); intro w3 hO3 hb3 hg3))
          go_roundg (gk - 1)
          case measure => have := hkq.out; omega
          case rel => exact ⟨a + 1, b + 1, xs.set a ky, by go_num, by go_num, Lib.hid (by have := hkq.out; omega), hA.out.2.2.2.2.2.1 hpk, ⟨hO3⟩, ⟨hb3⟩⟩
        · rw [hpk] at hcall2
          go_wp2_with (first | refine load_key rfl _ rfl _ rfl _ hA.out.1 ?_ | refine new_key rfl _ _ rfl _ _ rfl rfl ?_ | refine load_key rfl _ rfl _ rfl _ hA.out.2.1 ?_ | (refine hcall2.mono ?_; rintro e w2 ⟨rfl, hb2⟩; have hv2 := Aside0.mk (hA.out.2.1.below hb2)))
          go_roundg (gk - 1)
          case measure => have := hkq.out; omega
          case rel =>
            have hb3 := below_step (below_alloc (Below.refl _ wr) (.cells ky.arr 107)) hb2
            exact ⟨a, b + 1, xs, rfl, by go_num, Lib.hid (by have := hkq.out; omega), hA.out.2.2.2.2.1 hpk, ⟨Kd.R_below hO.out hb3⟩, ⟨below_then hBw.out hA.out.2.2.2.2.2.2 hb3⟩⟩
      · have p1 : decide ((b : Int) < (ks.length : Int)) = false := decide_eq_false (by omega)
        have hbe : b = ks.length := by omega
        have hac : a < cap := by omega
        have hca : ¬ cap = a := by omega
        have h0 : (0 : Int) ≤ (a : Int) := by omega
        have hal : (a : Int) ≤ (ks.length : Int) := by omega
        have hal2 : (a : Int) ≤ (cap : Int) := by omega
        have hmax : ks.length ≤ 9223372036854775807 := by omega
        obtain ⟨hz1, hgB, hz2, cur, hbl, hcs⟩ := own_block hO.out
        clear hz1 hz2
        have hfit : a * 34 + (ks.length - a) * 34 ≤ cap * 34 := by omega
        obtain ⟨L, hLl, hcl⟩ := run_clearKeys (c := cap - a) wr 0 hbl (by rw [hcs]; exact hfit) (show 0 < ks.length - a by omega)
        have hfin : Aside0 (OwnKeys (wr.setCells g (a * 34) L) B (.slice (some ⟨g, 0, none⟩) a cap) (ks.filter fun k => !p k)) := ⟨by
          have h1 := own_tail (Kd.R_take hO.out (m := a) (by omega)) L (by rw [hLl]; exact hfit)
          rw [hHo.front, hbe, List.take_length] at h1
          exact h1⟩
        have hBf : Aside0 (Below B w (wr.setCells g (a * 34) L)) := ⟨by
          obtain ⟨s1, s2, s3, s4⟩ := setCells_same g L (a * 34) wr
          exact hBw.out.trans ⟨s1, s2, s3, by rw [s4]; exact Nat.le_refl _, fun k hk => setCells_far L _ k (by omega)⟩⟩
        clear C hH hHo hab hble hxl hfit hbl hcs hLl hbe
        go_wp2_with (simp only [hcl])
        go_ret
        exact ⟨_, rfl, hfin.out, hBf.out⟩
end Go.Proofs.Ytnechcibpmjblaa
