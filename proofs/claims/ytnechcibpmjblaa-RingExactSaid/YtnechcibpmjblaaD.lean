/- The walks of the closures of package ring, and of slices.IndexFunc at keys. Conditions: the keys are read; the closure tells a predicate. -/
import Derived.Test.YtnechcibpmjblaaC
import Derived.Shelf.Abstract
namespace Go.Proofs.Ytnechcibpmjblaa
open Go.RowKit Go.Proofs.YtnechcibpmjblaaW.PrintWords KB
set_option linter.unusedVariables false
set_option linter.unusedSimpArgs false

theorem hmf : ∀ (fn : Fn) (first cap : Array Value) (w : World), (Instr.makeFunc fn first cap).run Try.prog w = .ok (.func fn first cap) w := fun _ _ _ _ => rfl
theorem findcl (k : Key) (a : Addr) (kid : Int) (w : World) (hc : w.cell? a = some (.int .u64 kid)) :
    Calls Try.prog 48 #[.agg k.arr, .pointer (some a)] w fun e w' => e = .returned (.bool (k.kid == kid)) ∧ Below w.heap.size w w' := by
  have hu107 := Try.underlying107
  have ha0 := k.arr_0
  have hal : a.block < w.heap.size := World.block_lt_of_cell? w _ hc
  go_enter Try.func48, Try.ntmps48
  go_wp2
  go_ret
  exact ⟨rfl, by repeat (first | exact Below.refl _ _ | apply below_alloc | apply pw_below_drewN | apply below_drew1)⟩
theorem curcl (k : Key) (w : World) :
    Calls Try.prog 47 #[.agg k.arr] w fun e w' => e = .returned (.bool (k.til == 0)) ∧ Below w.heap.size w w' := by
  have hu107 := Try.underlying107
  have ha0 := k.arr_33
  go_enter Try.func47, Try.ntmps47
  go_wp2
  go_ret
  exact ⟨rfl, by repeat (first | exact Below.refl _ _ | apply below_alloc | apply pw_below_drewN | apply below_drew1)⟩
theorem prunecl (k : Key) (a : Addr) (now : Int) (w : World) (hc : w.cell? a = some (.int .i64 now)) :
    Calls Try.prog 36 #[.agg k.arr, .pointer (some a)] w fun e w' => e = .returned (.bool (decide (0 < k.til) && decide (k.til ≤ now))) ∧ Below w.heap.size w w' := by
  have hu107 := Try.underlying107
  have ha0 := k.arr_33
  have hal : a.block < w.heap.size := World.block_lt_of_cell? w _ hc
  cases h1 : decide (0 < k.til)
  all_goals
    go_enter Try.func36, Try.ntmps36
    go_wp2
    go_ret
    exact ⟨rfl, by repeat (first | exact Below.refl _ _ | apply below_alloc | apply pw_below_drewN | apply below_drew1)⟩
theorem discl (k d : Key) (b : Nat) (fr : Nat × Nat) (w : World) (hb : w.heap[b]? = some (.cells d.arr 107 fr)) :
    Calls Try.prog 38 #[.agg k.arr, .pointer (some ⟨b, 0, none⟩)] w fun e w' => e = .returned (.bool (decide (k = d))) ∧ Below w.heap.size w w' := by
  have hu107 := Try.underlying107
  have e1 := fun w => eqlKey k d w
  have h1 : At (w.alloc (.cells k.arr 107)) ⟨w.heap.size, 0, none⟩ k.cs := at_var (blk_new w _)
  have h2 : At (w.alloc (.cells k.arr 107)) ⟨b, 0, none⟩ d.cs := at_var (blk_alloc hb _)
  go_enter Try.func38, Try.ntmps38
  go_wp2_with (first | refine load_key rfl _ rfl _ rfl _ h1 ?_ | refine load_key rfl _ rfl _ rfl _ h2 ?_)
  go_ret
  exact ⟨rfl, by repeat (first | exact Below.refl _ _ | apply below_alloc | apply pw_below_drewN | apply below_drew1)⟩
/-- What a function value tells of a key, in each world that comes behind this one. -/
def PaysB (f : Nat) (caps : Array Value) (p : Key → Bool) (B : Nat) (w : World) : Prop :=
  (∀ (k : Key) (w' : World), (callFunc f (#[.agg k.arr] ++ caps)).run Try.prog w' = .ok (.enter f (#[.agg k.arr] ++ caps)) w') ∧
  ∀ (k : Key) (w' : World), Below B w w' → Calls Try.prog f (#[.agg k.arr] ++ caps) w' fun e w'' => e = .returned (.bool (p k)) ∧ Below w'.heap.size w' w''
def Pays (f : Nat) (caps : Array Value) (p : Key → Bool) (w : World) : Prop := PaysB f caps p w.heap.size w
def idxF (p : Key → Bool) (ks : List Key) : Int := match ks.findIdx? p with | some i => i | none => -1
theorem rdK_eq {ks : List Key} {i : Nat} (h : i < ks.length) : rdK ks (i : Int) = ks[i] := by
  unfold rdK
  rw [show ((i : Int)).toNat = i from rfl, List.getD_eq_getElem?_getD, List.getElem?_eq_getElem h]
  rfl
theorem idx_at {p : Key → Bool} {ks : List Key} {k : Nat} (h : k < ks.length) (hk : p (rdK ks (k : Int)) = true) (hg : ∀ i, i < k → p (rdK ks (i : Int)) = false) : idxF p ks = k := by
  unfold idxF
  rw [List.findIdx?_eq_some_iff_getElem.2 ⟨h, by rw [← rdK_eq h]; exact hk, fun j hj => by rw [← rdK_eq (by omega), hg j hj]; simp⟩]
theorem idx_none {p : Key → Bool} {ks : List Key} (hg : ∀ i, i < ks.length → p (rdK ks (i : Int)) = false) : idxF p ks = -1 := by
  unfold idxF
  rw [List.findIdx?_eq_none_iff.2 (fun x hx => by
    obtain ⟨i, hi, rfl⟩ := List.getElem_of_mem hx
    rw [← rdK_eq hi]; exact hg i hi)]
set_option maxHeartbeats 2000000 in
set_option maxRecDepth 100000 in
theorem index_any (p : Key → Bool) (f : Nat) (caps : Array Value) (ks : List Key) (A : Option Addr) (c : Nat) (w : World) (hr : kKey.C w A ks.length ks) (hc : ks.length ≤ c) (hp : Pays f caps p w) :
    Calls Try.prog 49 #[.slice A ks.length c, .func (.func f) #[] caps] w fun e w' => e = .returned (.int .i64 (idxF p ks)) ∧ Below w.heap.size w w' := by
  have hu107 := Try.underlying107
  have hu55 := Try.underlying55
  have hmax := Kd.C_max hr
  have hR := Aside0.mk hr
  have hP := Aside0.mk hp
  clear hr hp
  go_enter Try.func49, Try.ntmps49
  go_wp2
  go_loopg [8] ks.length (fun kq v8 w' => ∃ k : Nat, v8 = .int .i64 k ∧ k ≤ ks.length ∧ Hid (k + kq = ks.length) ∧ Aside0 (Below w.heap.size w w') ∧ Hid (∀ i, i < k → p (rdK ks (i : Int)) = false))
  case atStart => exact ⟨0, rfl, Nat.zero_le _, Lib.hid (by omega), ⟨by repeat (first | exact Below.refl _ _ | apply below_alloc | apply pw_below_drewN)⟩, Lib.hid (fun i hi => by omega)⟩
  case round =>
    obtain ⟨k, rfl, hk, hkq, hBel, hgood⟩ := hrel
    have C' := Kd.C_below hR.out hBel.out
    by_cases hc1 : k < ks.length
    · obtain ⟨ad, rfl, ym, y0, y33⟩ := at_Key C' (k : Int) (by omega) (by omega)
      rw [show (k : Int).toNat = k from rfl] at y0 y33 ym
      have hkl : (ad.add (k * 34)).block < wr.heap.size := World.block_lt_of_cell? wr _ y0
      have j1 : (k : Int) < (ks.length : Int) := by omega
      generalize hky : rdK ks (k : Int) = ky at *
      have hcall := hP.out.2 ky wr hBel.out
      have hent := hP.out.1 ky
      clear C' y0 y33
      cases hpk : p ky
      · rw [hpk] at hcall
        go_wp2_with (first | refine load_key rfl _ rfl _ rfl _ ym ?_ | (refine hcall.mono ?_; rintro e w1 ⟨rfl, hb⟩))
        go_roundg (gk - 1)
        case measure => have := hkq.out; omega
        case rel =>
          exact ⟨k + 1, by go_num, by omega, Lib.hid (by have := hkq.out; omega), ⟨by repeat (first | exact hBel.out | refine below_step ?_ hb)⟩, Lib.hid (fun i hi => by
            rcases Nat.lt_or_ge i k with h | h
            · exact hgood.out i h
            · obtain rfl : i = k := by omega
              rw [hky]; exact hpk)⟩
      · have e : idxF p ks = k := idx_at hc1 (by rw [hky]; exact hpk) hgood.out
        rw [hpk] at hcall
        go_wp2_with (first | refine load_key rfl _ rfl _ rfl _ ym ?_ | (refine hcall.mono ?_; rintro e w1 ⟨rfl, hb⟩))
        go_ret
        exact ⟨by rw [e]; rfl, by repeat (first | exact hBel.out | refine below_step ?_ hb)⟩
    · have e : idxF p ks = -1 := idx_none (fun i hi => hgood.out i (by omega))
      have q : decide ((k : Int) < (ks.length : Int)) = false := decide_eq_false (by omega)
      have q' : decide (k < ks.length) = false := decide_eq_false hc1
      clear C'
      go_wp2
      go_ret
      exact ⟨by rw [e]; rfl, by repeat (first | exact hBel.out)⟩

theorem enters48 : ∀ (args : Array Value) (w : World), (callFunc 48 args).run Try.prog w = .ok (.enter 48 args) w := enters_of Try.func48 (by kernel_rfl) rfl
theorem enters47 : ∀ (args : Array Value) (w : World), (callFunc 47 args).run Try.prog w = .ok (.enter 47 args) w := enters_of Try.func47 (by kernel_rfl) rfl
theorem enters36 : ∀ (args : Array Value) (w : World), (callFunc 36 args).run Try.prog w = .ok (.enter 36 args) w := enters_of Try.func36 (by kernel_rfl) rfl
theorem enters38 : ∀ (args : Array Value) (w : World), (callFunc 38 args).run Try.prog w = .ok (.enter 38 args) w := enters_of Try.func38 (by kernel_rfl) rfl
theorem pays_find {w : World} {a : Addr} {kid : Int} (hc : w.cell? a = some (.int .u64 kid)) : Pays 48 #[.pointer (some a)] (fun k => k.kid == kid) w :=
  ⟨fun _ _ => enters48 _ _, fun k w' hb => findcl k a kid w' (pw_cell_below hb hc)⟩
theorem pays_cur (w : World) : Pays 47 #[] (fun k => k.til == 0) w := ⟨fun _ _ => enters47 _ _, fun k w' hb => curcl k w'⟩
theorem Pays.below {f : Nat} {caps : Array Value} {p : Key → Bool} {w w1 : World} (h : Pays f caps p w) (hb : Below w.heap.size w w1) : Pays f caps p w1 :=
  ⟨h.1, fun k w' hb' => h.2 k w' (below_step hb hb')⟩
theorem PaysB.at_ {f : Nat} {caps : Array Value} {p : Key → Bool} {B : Nat} {w w1 : World} (h : PaysB f caps p B w) (hB : B ≤ w1.heap.size) (hb : Below B w w1) : Pays f caps p w1 :=
  ⟨h.1, fun k w' hb' => h.2 k w' (below_then hb hB hb')⟩
theorem paysB_prune {w : World} {a : Addr} {now : Int} {B : Nat} (hB : a.block < B) (hc : w.cell? a = some (.int .i64 now)) : PaysB 36 #[.pointer (some a)] (fun k => decide (0 < k.til) && decide (k.til ≤ now)) B w :=
  ⟨fun _ _ => enters36 _ _, fun k w' hb => prunecl k a now w' ((hb.cell hB).trans hc)⟩
theorem paysB_dis {w : World} {b : Nat} {d : Key} {fr : Nat × Nat} {B : Nat} (hB : b < B) (hc : w.heap[b]? = some (.cells d.arr 107 fr)) : PaysB 38 #[.pointer (some ⟨b, 0, none⟩)] (fun k => decide (k = d)) B w :=
  ⟨fun _ _ => enters38 _ _, fun k w' hb => discl k d b fr w' ((hb.block b hB).trans hc)⟩
end Go.Proofs.Ytnechcibpmjblaa
