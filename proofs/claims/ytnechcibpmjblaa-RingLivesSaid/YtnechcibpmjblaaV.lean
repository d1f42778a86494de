/- The law RingLives of the given program answers true: its walk. Conditions: the turns are read. -/
import Derived.Test.YtnechcibpmjblaaT
import Derived.Test.YtnechcibpmjblaaRL
namespace Go.Proofs.Ytnechcibpmjblaa
open Go.RowKit Go.Proofs.YtnechcibpmjblaaW.PrintWords KB WG
set_option linter.unusedVariables false
set_option linter.unusedSimpArgs false
set_option linter.unnecessarySimpa false

structure Fate where
  kid : Int
  sec : Bs 32
  til : Int
  gone : Bool
deriving DecidableEq
def Fate.cs (x : Fate) : List Value := [.int .u64 x.kid] ++ (x.sec.cs ++ ([.int .i64 x.til, .bool x.gone]))
theorem Fate.cs_len (x : Fate) : x.cs.length = 35 := by simp [Fate.cs, Bs.cs_len]
theorem Fate.cs_one (x : Fate) : ∀ u ∈ x.cs, u.oneCell' = true := by
  intro u hu
  simp only [Fate.cs, List.mem_cons, List.mem_append, List.not_mem_nil, or_false] at hu
  rcases hu with rfl | hu | rfl | rfl
  · rfl
  · exact Bs.cs_one _ u hu
  · rfl
  · rfl
def Fate.arr (x : Fate) : Array Value := x.cs.toArray
theorem Fate.arr_size (x : Fate) : x.arr.size = 35 := by simp [Fate.arr, Fate.cs_len]
theorem Fate.arr_one (x : Fate) : x.arr.all (·.oneCell') = true := all_oneCell_toArray x.cs_one
theorem Fate.cs_0 (x : Fate) : x.cs[0]? = some (.int .u64 x.kid) := by
  rw [show x.cs = [] ++ .int .u64 x.kid :: (x.sec.cs ++ ([.int .i64 x.til, .bool x.gone])) by simp [Fate.cs]]
  exact nth_mid (by simp [Bs.cs_len])
theorem Fate.arr_0 (x : Fate) : x.arr[0]? = some (.int .u64 x.kid) := by rw [show x.arr = x.cs.toArray from rfl]; simpa using x.cs_0
theorem Fate.set_0 (x : Fate) (u : Int) : x.cs.take 0 ++ [.int .u64 u] ++ x.cs.drop (0 + 1) = ({ x with kid := u } : Fate).cs := by
  have h := set_mid (pre := []) (mid := [.int .u64 x.kid]) (mid' := [.int .u64 u]) (post := x.sec.cs ++ ([.int .i64 x.til, .bool x.gone])) (j := 0) (m := 1) (by simp [Bs.cs_len]) rfl
  simpa [Fate.cs] using h
theorem Fate.sec_at {w : World} {p : Addr} {x : Fate} (h : At w p x.cs) : At w (p.add 1) x.sec.cs := at_mid (pre := [.int .u64 x.kid]) (post := [.int .i64 x.til, .bool x.gone]) h (by simp [Fate.cs]) (by simp [Bs.cs_len])
theorem Fate.cs_33 (x : Fate) : x.cs[33]? = some (.int .i64 x.til) := by
  rw [show x.cs = [.int .u64 x.kid] ++ (x.sec.cs) ++ .int .i64 x.til :: ([.bool x.gone]) by simp [Fate.cs]]
  exact nth_mid (by simp [Bs.cs_len])
theorem Fate.arr_33 (x : Fate) : x.arr[33]? = some (.int .i64 x.til) := by rw [show x.arr = x.cs.toArray from rfl]; simpa using x.cs_33
theorem Fate.set_33 (x : Fate) (u : Int) : x.cs.take 33 ++ [.int .i64 u] ++ x.cs.drop (33 + 1) = ({ x with til := u } : Fate).cs := by
  have h := set_mid (pre := [.int .u64 x.kid] ++ (x.sec.cs)) (mid := [.int .i64 x.til]) (mid' := [.int .i64 u]) (post := [.bool x.gone]) (j := 33) (m := 1) (by simp [Bs.cs_len]) rfl
  simpa [Fate.cs] using h
theorem Fate.cs_34 (x : Fate) : x.cs[34]? = some (.bool x.gone) := by
  rw [show x.cs = [.int .u64 x.kid] ++ (x.sec.cs ++ ([.int .i64 x.til])) ++ .bool x.gone :: ([]) by simp [Fate.cs]]
  exact nth_mid (by simp [Bs.cs_len])
theorem Fate.arr_34 (x : Fate) : x.arr[34]? = some (.bool x.gone) := by rw [show x.arr = x.cs.toArray from rfl]; simpa using x.cs_34
theorem Fate.set_34 (x : Fate) (u : Bool) : x.cs.take 34 ++ [.bool u] ++ x.cs.drop (34 + 1) = ({ x with gone := u } : Fate).cs := by
  have h := set_mid (pre := [.int .u64 x.kid] ++ (x.sec.cs ++ ([.int .i64 x.til]))) (mid := [.bool x.gone]) (mid' := [.bool u]) (post := []) (j := 34) (m := 1) (by simp [Bs.cs_len]) rfl
  simpa [Fate.cs] using h
def kFate : Kd Fate := kBlk Fate.cs 35 Fate.cs_len Fate.cs_one
def zFate : Fate := ⟨0, zBs 32, 0, false⟩
theorem zero96 : ∀ w, (zeroValue 96).run Try.prog w = .ok (.agg zFate.arr) w := fun _ => by kernel_rfl
theorem row96 : row? Try.prog 96 35 = true := by kernel_rfl
theorem lrow96 (x : Fate) {w : World} {p : Addr} (h : At w p x.cs) : (loadVar 96 p).run Try.prog w = .ok (.agg x.arr) w := lvr (by rw [Fate.cs_len]; exact row96) h
theorem sz96 (x : Fate) : (Try.prog.info? 96).map (·.size) = some x.arr.size := by rw [Fate.arr_size]; exact sz_row row96
theorem build96_01x (kid : Int) (sec0 sec1 sec2 sec3 sec4 sec5 sec6 sec7 sec8 sec9 sec10 sec11 sec12 sec13 sec14 sec15 sec16 sec17 sec18 sec19 sec20 sec21 sec22 sec23 sec24 sec25 sec26 sec27 sec28 sec29 sec30 sec31 : Int) (w : World) : (Instr.build 96 #[(0, .int .u64 kid), (1, .agg #[.int .u8 sec0, .int .u8 sec1, .int .u8 sec2, .int .u8 sec3, .int .u8 sec4, .int .u8 sec5, .int .u8 sec6, .int .u8 sec7, .int .u8 sec8, .int .u8 sec9, .int .u8 sec10, .int .u8 sec11, .int .u8 sec12, .int .u8 sec13, .int .u8 sec14, .int .u8 sec15, .int .u8 sec16, .int .u8 sec17, .int .u8 sec18, .int .u8 sec19, .int .u8 sec20, .int .u8 sec21, .int .u8 sec22, .int .u8 sec23, .int .u8 sec24, .int .u8 sec25, .int .u8 sec26, .int .u8 sec27, .int .u8 sec28, .int .u8 sec29, .int .u8 sec30, .int .u8 sec31])]).run Try.prog w = .ok (.agg #[.int .u64 kid, .int .u8 sec0, .int .u8 sec1, .int .u8 sec2, .int .u8 sec3, .int .u8 sec4, .int .u8 sec5, .int .u8 sec6, .int .u8 sec7, .int .u8 sec8, .int .u8 sec9, .int .u8 sec10, .int .u8 sec11, .int .u8 sec12, .int .u8 sec13, .int .u8 sec14, .int .u8 sec15, .int .u8 sec16, .int .u8 sec17, .int .u8 sec18, .int .u8 sec19, .int .u8 sec20, .int .u8 sec21, .int .u8 sec22, .int .u8 sec23, .int .u8 sec24, .int .u8 sec25, .int .u8 sec26, .int .u8 sec27, .int .u8 sec28, .int .u8 sec29, .int .u8 sec30, .int .u8 sec31, .int .i64 0, .bool false]) w := by kernel_rfl
theorem build96_01 (kid : Int) (sec : Bs 32) (w : World) : (Instr.build 96 #[(0, .int .u64 kid), (1, .agg sec.cs.toArray)]).run Try.prog w = .ok (.agg (⟨kid, sec, 0, false⟩ : Fate).arr) w := by
  obtain ⟨lsec, hsec⟩ := sec
  match lsec, hsec with
  | [sec0, sec1, sec2, sec3, sec4, sec5, sec6, sec7, sec8, sec9, sec10, sec11, sec12, sec13, sec14, sec15, sec16, sec17, sec18, sec19, sec20, sec21, sec22, sec23, sec24, sec25, sec26, sec27, sec28, sec29, sec30, sec31], _ => exact build96_01x kid sec0 sec1 sec2 sec3 sec4 sec5 sec6 sec7 sec8 sec9 sec10 sec11 sec12 sec13 sec14 sec15 sec16 sec17 sec18 sec19 sec20 sec21 sec22 sec23 sec24 sec25 sec26 sec27 sec28 sec29 sec30 sec31 w
theorem newrow96x (kid : Int) (til : Int) (gone : Bool) (sec0 sec1 sec2 sec3 sec4 sec5 sec6 sec7 sec8 sec9 sec10 sec11 sec12 sec13 sec14 sec15 sec16 sec17 sec18 sec19 sec20 sec21 sec22 sec23 sec24 sec25 sec26 sec27 sec28 sec29 sec30 sec31 : Int) (w : World) : (Instr.buildSlice 97 1 #[(0, .agg #[.int .u64 kid, .int .u8 sec0, .int .u8 sec1, .int .u8 sec2, .int .u8 sec3, .int .u8 sec4, .int .u8 sec5, .int .u8 sec6, .int .u8 sec7, .int .u8 sec8, .int .u8 sec9, .int .u8 sec10, .int .u8 sec11, .int .u8 sec12, .int .u8 sec13, .int .u8 sec14, .int .u8 sec15, .int .u8 sec16, .int .u8 sec17, .int .u8 sec18, .int .u8 sec19, .int .u8 sec20, .int .u8 sec21, .int .u8 sec22, .int .u8 sec23, .int .u8 sec24, .int .u8 sec25, .int .u8 sec26, .int .u8 sec27, .int .u8 sec28, .int .u8 sec29, .int .u8 sec30, .int .u8 sec31, .int .i64 til, .bool gone])]).run Try.prog w = .ok (.slice (some ⟨w.heap.size, 0, none⟩) 1 1) (w.alloc (.cells #[.int .u64 kid, .int .u8 sec0, .int .u8 sec1, .int .u8 sec2, .int .u8 sec3, .int .u8 sec4, .int .u8 sec5, .int .u8 sec6, .int .u8 sec7, .int .u8 sec8, .int .u8 sec9, .int .u8 sec10, .int .u8 sec11, .int .u8 sec12, .int .u8 sec13, .int .u8 sec14, .int .u8 sec15, .int .u8 sec16, .int .u8 sec17, .int .u8 sec18, .int .u8 sec19, .int .u8 sec20, .int .u8 sec21, .int .u8 sec22, .int .u8 sec23, .int .u8 sec24, .int .u8 sec25, .int .u8 sec26, .int .u8 sec27, .int .u8 sec28, .int .u8 sec29, .int .u8 sec30, .int .u8 sec31, .int .i64 til, .bool gone] 96)) := by kernel_rfl
theorem newrow96 (x : Fate) (w : World) : (Instr.buildSlice 97 1 #[(0, .agg x.arr)]).run Try.prog w = .ok (.slice (some ⟨w.heap.size, 0, none⟩) 1 1) (w.alloc (.cells x.arr 96)) := by
  obtain ⟨kid, ⟨lsec, hsec⟩, til, gone⟩ := x
  match lsec, hsec with
  | [sec0, sec1, sec2, sec3, sec4, sec5, sec6, sec7, sec8, sec9, sec10, sec11, sec12, sec13, sec14, sec15, sec16, sec17, sec18, sec19, sec20, sec21, sec22, sec23, sec24, sec25, sec26, sec27, sec28, sec29, sec30, sec31], _ => exact newrow96x kid til gone sec0 sec1 sec2 sec3 sec4 sec5 sec6 sec7 sec8 sec9 sec10 sec11 sec12 sec13 sec14 sec15 sec16 sec17 sec18 sec19 sec20 sec21 sec22 sec23 sec24 sec25 sec26 sec27 sec28 sec29 sec30 sec31 w

def Fate.key (f : Fate) : Key := ⟨f.kid, f.sec, f.til⟩
/-- The keys that there are still. -/
def live (l : List Fate) : List Key := (l.filter fun f => !f.gone).map Fate.key
theorem live_nil : live [] = [] := rfl
theorem live_app (a b : List Fate) : live (a ++ b) = live a ++ live b := by unfold live; rw [List.filter_append, List.map_append]
theorem live_one {f : Fate} (h : f.gone = false) : live [f] = [f.key] := by simp [live, h]
theorem live_gone {f : Fate} (h : f.gone = true) : live [f] = [] := by simp [live, h]
theorem mem_live {l : List Fate} {k : Key} : k ∈ live l ↔ ∃ f ∈ l, f.gone = false ∧ f.key = k := by
  unfold live
  simp only [List.mem_map, List.mem_filter, Bool.not_eq_true']
  constructor
  · rintro ⟨f, ⟨h1, h2⟩, h3⟩; exact ⟨f, h1, h2, h3⟩
  · rintro ⟨f, h1, h2, h3⟩; exact ⟨f, ⟨h1, h2⟩, h3⟩
/-- All fates f0 ++ [fl] of a ring. -/
structure Lives (f0 : List Fate) (fl : Fate) (next : Int) : Prop where
  ring : IsRing (live f0) fl.key next
  alive : fl.gone = false
  kids : ∀ (i : Nat) (f : Fate), (f0 ++ [fl])[i]? = some f → f.kid = (i : Int) + 1
  next_ : next = (f0.length : Int) + 2
section
variable {f0 : List Fate} {fl : Fate} {next : Int}
theorem Lives.cur (h : Lives f0 fl next) : fl.til = 0 := h.ring.cur
theorem live_mem_of {i : Nat} {f : Fate} (h : Lives f0 fl next) (hi : (f0 ++ [fl])[i]? = some f) (hg : f.gone = false) : f.key ∈ live f0 ++ [fl.key] := by
  rcases List.mem_append.1 (List.mem_of_getElem? hi) with hm | hm
  · exact List.mem_append_left _ (mem_live.2 ⟨f, hm, hg, rfl⟩)
  · rw [List.mem_singleton.1 hm]; simp
theorem live_kid {k : Key} (h : Lives f0 fl next) (hk : k ∈ live f0 ++ [fl.key]) : ∃ (i : Nat) (f : Fate), (f0 ++ [fl])[i]? = some f ∧ f.gone = false ∧ f.key = k := by
  rcases List.mem_append.1 hk with hk | hk
  · obtain ⟨f, hf, hg, e⟩ := mem_live.1 hk
    obtain ⟨i, hi, rfl⟩ := List.getElem_of_mem hf
    exact ⟨i, _, by rw [List.getElem?_append_left hi]; exact List.getElem?_eq_getElem hi, hg, e⟩
  · rw [List.mem_singleton.1 hk]
    exact ⟨f0.length, fl, by simp, h.alive, rfl⟩
theorem Lives.find (h : Lives f0 fl next) {i : Nat} {f : Fate} (hi : (f0 ++ [fl])[i]? = some f) (hg : f.gone = false) : findF f.kid (live f0 ++ [fl.key]) next = f.key :=
  h.ring.find (live_mem_of h hi hg)
theorem Lives.find_gone (h : Lives f0 fl next) {i : Nat} {f : Fate} (hi : (f0 ++ [fl])[i]? = some f) (hg : f.gone = true) : findF f.kid (live f0 ++ [fl.key]) next = zKey := by
  refine h.ring.find_none fun k hk e => ?_
  obtain ⟨j, g, hj, hgg, rfl⟩ := live_kid h hk
  have e1 := h.kids i f hi
  have e2 := h.kids j g hj
  have e3 : g.kid = f.kid := e
  have : i = j := by omega
  subst this
  rw [hi] at hj
  obtain rfl := Option.some.inj hj
  rw [hg] at hgg; cases hgg
theorem Lives.find_other (h : Lives f0 fl next) {kid : Int} (hk : kid < 1 ∨ (f0.length : Int) + 1 < kid) : findF kid (live f0 ++ [fl.key]) next = zKey := by
  refine h.ring.find_none fun k hm e => ?_
  obtain ⟨j, g, hj, _, rfl⟩ := live_kid h hm
  have e2 := h.kids j g hj
  have hlt := (List.getElem?_eq_some_iff.1 hj).1
  simp only [List.length_append, List.length_cons, List.length_nil] at hlt
  have e3 : g.kid = kid := e
  omega
/-- So many of the first i are still there. -/
def alv (l : List Fate) (i : Nat) : Nat := (live (l.take i)).length
theorem alv_zero (l : List Fate) : alv l 0 = 0 := by simp [alv, live]
theorem alv_le (l : List Fate) (i : Nat) : alv l i ≤ i := by
  unfold alv live
  rw [List.length_map]
  exact Nat.le_trans (List.length_filter_le _ _) (by rw [List.length_take]; omega)
theorem alv_yes {l : List Fate} {i : Nat} {f : Fate} (h : l[i]? = some f) (hg : f.gone = false) : alv l (i + 1) = alv l i + 1 := by
  have hi := (List.getElem?_eq_some_iff.1 h).1
  unfold alv
  rw [List.take_succ_eq_append_getElem hi, (List.getElem?_eq_some_iff.1 h).2, live_app, live_one hg, List.length_append]
  rfl
theorem alv_no {l : List Fate} {i : Nat} {f : Fate} (h : l[i]? = some f) (hg : f.gone = true) : alv l (i + 1) = alv l i := by
  have hi := (List.getElem?_eq_some_iff.1 h).1
  unfold alv
  rw [List.take_succ_eq_append_getElem hi, (List.getElem?_eq_some_iff.1 h).2, live_app, live_gone hg, List.append_nil]
theorem Lives.count (h : Lives f0 fl next) {i : Nat} (hi : f0.length + 1 ≤ i) : alv (f0 ++ [fl]) i = (live f0).length + 1 := by
  unfold alv
  rw [List.take_of_length_le (by simp; omega), live_app, live_one h.alive]
  simp
end
theorem at_Fate {w : World} {A : Option Addr} {n : Nat} {fs : List Fate} (h : kFate.C w A n fs) {i : Nat} {f : Fate} (hi : fs[i]? = some f) : ∃ ad, A = some ad ∧ At w (ad.add (i * 35)) f.cs := by
  have hn : n = fs.length := h.1.symm
  have hlt := (List.getElem?_eq_some_iff.1 hi).1
  obtain ⟨ad, e, hc⟩ := kBlk_at (z := zFate) h (i : Int) (by omega) (by omega)
  refine ⟨ad, e, ?_⟩
  rw [show (i : Int).toNat = i from rfl, show fs.getD i zFate = f by rw [List.getD_eq_getElem?_getD, hi]; rfl] at hc
  exact hc
theorem find_gone {f0 : List Fate} {fl : Fate} {next : Int} (A : Option Addr) (c : Nat) (w : World) (hO : RO w A c ⟨live f0 ++ [fl.key], next⟩) {kid : Int} (hk : findF kid (live f0 ++ [fl.key]) next = zKey) :
    Calls Try.prog 30 #[.agg #[.slice A ((live f0).length + 1) c, .int .u64 next], .int .u64 kid] w fun e w' => e = .returned (.tuple #[.agg zKey.arr, .bool false]) ∧ Below w.heap.size w w' := find_n A c w hO hk
section
variable {f0 : List Fate} {fl : Fate} {next : Int}
theorem Lives.first (s : Bs 32) : Lives [] ⟨1, s, 0, false⟩ 2 where
  ring := first_ring s
  alive := rfl
  kids := fun i f h => by
    cases i with
    | zero => obtain rfl : (⟨1, s, 0, false⟩ : Fate) = f := by simpa using h
              rfl
    | succ i => simp at h
  next_ := rfl
theorem Lives.kid_at (h : Lives f0 fl next) {i : Nat} {f : Fate} (hi : f0[i]? = some f) : f.kid = (i : Int) + 1 :=
  h.kids i f (by rw [List.getElem?_append_left (List.getElem?_eq_some_iff.1 hi).1]; exact hi)
theorem Lives.kid_last (h : Lives f0 fl next) : fl.kid = (f0.length : Int) + 1 := h.kids f0.length fl (by simp)
theorem live_set (h : Lives f0 fl next) {i : Nat} {f : Fate} (hi : f0[i]? = some f) (hg : f.gone = false) : live (f0.set i { f with gone := true }) = (live f0).filter fun x => !decide (x = f.key) := by
  have hk : i < f0.length := (List.getElem?_eq_some_iff.1 hi).1
  have hv : f0[i] = f := (List.getElem?_eq_some_iff.1 hi).2
  have e1 : f0 = f0.take i ++ f :: f0.drop (i + 1) := by
    conv => lhs; rw [← List.take_append_drop i f0]
    rw [List.drop_eq_getElem_cons hk, hv]
  have e2 : f0.set i { f with gone := true } = f0.take i ++ { f with gone := true } :: f0.drop (i + 1) := by
    rw [List.set_eq_take_append_cons_drop, if_pos hk]
  have hne : ∀ (l : List Fate), (∀ g ∈ l, ∃ j, j ≠ i ∧ f0[j]? = some g) → (live l).filter (fun x => !decide (x = f.key)) = live l := fun l hl => by
    refine List.filter_eq_self.2 fun k hk => ?_
    obtain ⟨g, hm, _, rfl⟩ := mem_live.1 hk
    obtain ⟨j, hj, hg⟩ := hl g hm
    have e1 := h.kid_at hi
    have e2 := h.kid_at hg
    have : g.key ≠ f.key := fun e => by
      have : g.kid = f.kid := congrArg Key.kid e
      omega
    simp [this]
  have hA := hne (f0.take i) (fun g hg => by
    obtain ⟨j, hj, e⟩ := List.getElem_of_mem hg
    have hj' : j < i := by rw [List.length_take] at hj; omega
    exact ⟨j, by omega, by rw [← e, List.getElem_take]; exact List.getElem?_eq_getElem _⟩)
  have hB := hne (f0.drop (i + 1)) (fun g hg => by
    obtain ⟨j, hj, e⟩ := List.getElem_of_mem hg
    exact ⟨i + 1 + j, by omega, by rw [← e, List.getElem_drop]; exact List.getElem?_eq_getElem _⟩)
  rw [e2]
  conv => rhs; rw [e1]
  rw [show f0.take i ++ ({ f with gone := true } : Fate) :: f0.drop (i + 1) = f0.take i ++ ([({ f with gone := true } : Fate)] ++ f0.drop (i + 1)) from rfl, show f0.take i ++ f :: f0.drop (i + 1) = f0.take i ++ ([f] ++ f0.drop (i + 1)) from rfl,
    live_app, live_app, live_app, live_app, live_gone rfl, live_one hg, List.filter_append, List.filter_append, hA, hB]
  simp
theorem Lives.distrust_some (h : Lives f0 fl next) {i : Nat} {f : Fate} (hi : f0[i]? = some f) (hg : f.gone = false) (s : Bs 32) :
    distrustF ⟨live f0 ++ [fl.key], next⟩ f.kid s = (⟨live (f0.set i { f with gone := true }) ++ [fl.key], next⟩, 0) ∧ Lives (f0.set i { f with gone := true }) fl next := by
  have hk : f.key ∈ live f0 := mem_live.2 ⟨f, List.mem_of_getElem? hi, hg, rfl⟩
  have e := live_set h hi hg
  refine ⟨?_, ?_, h.alive, ?_, ?_⟩
  · rw [e]; exact h.ring.distrust_init hk s
  · rw [e]; exact h.ring.sub List.filter_sublist
  · intro j g hj
    by_cases hjl : j < f0.length
    · rw [List.getElem?_append_left (by simpa using hjl)] at hj
      by_cases ej : i = j
      · subst ej
        rw [List.getElem?_set_self hjl] at hj
        obtain rfl := Option.some.inj hj
        show f.kid = _
        exact h.kid_at hi
      · rw [List.getElem?_set_ne ej] at hj
        exact h.kid_at hj
    · rw [List.getElem?_append_right (by simpa using hjl)] at hj
      refine h.kids j g ?_
      rw [List.getElem?_append_right (by omega)]
      simpa using hj
  · rw [List.length_set]; exact h.next_
theorem Lives.distrust_last (h : Lives f0 fl next) (s : Bs 32) (hm : next < 9223372036854775807) :
    distrustF ⟨live f0 ++ [fl.key], next⟩ fl.kid s = (⟨live (f0 ++ [{ fl with gone := true }]) ++ [(⟨next, s, 0, false⟩ : Fate).key], next + 1⟩, 0) ∧ Lives (f0 ++ [{ fl with gone := true }]) ⟨next, s, 0, false⟩ (next + 1) := by
  have e : live (f0 ++ [{ fl with gone := true }]) = live f0 := by rw [live_app, live_gone rfl, List.append_nil]
  rw [e]
  refine ⟨h.ring.distrust_last s hm, by rw [e]; exact h.ring.replaced s hm, rfl, ?_, ?_⟩
  · intro j g hj
    have hn := h.next_
    have hl := h.kid_last
    by_cases h1 : j < f0.length
    · rw [List.append_assoc, List.getElem?_append_left h1] at hj
      exact h.kid_at hj
    · rw [List.append_assoc, List.getElem?_append_right (by omega)] at hj
      obtain ⟨d, rfl⟩ : ∃ d, j = f0.length + d := ⟨j - f0.length, by omega⟩
      rw [show f0.length + d - f0.length = d by omega] at hj
      match d, hj with
      | 0, hj => obtain rfl : ({ fl with gone := true } : Fate) = g := by simpa using hj
                 exact hl
      | 1, hj => obtain rfl : (⟨next, s, 0, false⟩ : Fate) = g := by simpa using hj
                 show next = _
                 omega
      | d + 2, hj => simp at hj
  · have hn := h.next_
    simp only [List.length_append, List.length_cons, List.length_nil]
    omega
theorem Lives.distrust_none (h : Lives f0 fl next) {kid : Int} (s : Bs 32) (hn : ∀ (i : Nat) (f : Fate), (f0 ++ [fl])[i]? = some f → f.gone = false → f.kid ≠ kid) : distrustF ⟨live f0 ++ [fl.key], next⟩ kid s = (zRg, 53) := by
  refine h.ring.distrust_none s fun k hk e => ?_
  obtain ⟨j, g, hj, hg, rfl⟩ := live_kid h hk
  exact hn j g hj hg e
/-- What a Prune does to a fate. -/
def prF (t : Int) (f : Fate) : Fate := { f with gone := f.gone || (decide (0 < f.til) && decide (f.til ≤ t)) }
theorem live_prune (h : Lives f0 fl next) (t : Int) : live (f0.map (prF t)) = (live f0).filter fun k => !(decide (0 < k.til) && decide (k.til ≤ t)) := by
  unfold live
  rw [List.filter_map, List.filter_map, List.map_map, List.filter_filter]
  rw [show Fate.key ∘ prF t = Fate.key from rfl]
  congr 1
  refine List.filter_congr fun f hf => ?_
  show (!(f.gone || (decide (0 < f.til) && decide (f.til ≤ t)))) = _
  simp only [Function.comp, Fate.key]
  cases f.gone <;> simp <;> rfl
theorem Lives.prune (h : Lives f0 fl next) (t : Int) : pruneF ⟨live f0 ++ [fl.key], next⟩ t = ⟨live (f0.map (prF t)) ++ [fl.key], next⟩ ∧ Lives (f0.map (prF t)) fl next := by
  have e := live_prune h t
  refine ⟨?_, ?_, h.alive, ?_, ?_⟩
  · rw [e]; exact h.ring.prune t
  · rw [e]; exact h.ring.pruned t
  · intro j g hj
    by_cases hjl : j < f0.length
    · rw [List.getElem?_append_left (by simpa using hjl), List.getElem?_map] at hj
      obtain ⟨f, hf, rfl⟩ := Option.map_eq_some_iff.1 hj
      show f.kid = _
      exact h.kid_at hf
    · rw [List.getElem?_append_right (by simpa using hjl)] at hj
      refine h.kids j g ?_
      rw [List.getElem?_append_right (by omega)]
      simpa using hj
  · rw [List.length_map]; exact h.next_
theorem Lives.prF_last (h : Lives f0 fl next) (t : Int) : prF t fl = fl := by
  have h1 := h.alive
  have h2 := h.cur
  obtain ⟨a, b, c, d⟩ := fl
  simp only at h1 h2
  subst h1 h2
  rfl
theorem Lives.rotate (h : Lives f0 fl next) (s : Bs 32) {u : Int} (hu : 0 < u) (hf : (live f0).length + 1 < 8) (hm : next < 9223372036854775807) :
    rotateF ⟨live f0 ++ [fl.key], next⟩ s u = (⟨live (f0 ++ [{ fl with til := u }]) ++ [(⟨next, s, 0, false⟩ : Fate).key], next + 1⟩, 0) ∧ Lives (f0 ++ [{ fl with til := u }]) ⟨next, s, 0, false⟩ (next + 1) := by
  have e : live (f0 ++ [{ fl with til := u }]) = live f0 ++ [{ fl.key with til := u }] := by rw [live_app, live_one (f := { fl with til := u }) h.alive]; rfl
  refine ⟨?_, ?_, rfl, ?_, ?_⟩
  · rw [e, h.ring.rotate, if_neg (by omega), if_neg (by omega)]; rfl
  · rw [e]; exact h.ring.rotated s hu hf hm
  · intro j g hj
    have hn := h.next_
    have hl := h.kid_last
    by_cases h1 : j < f0.length
    · rw [List.append_assoc, List.getElem?_append_left h1] at hj
      exact h.kid_at hj
    · rw [List.append_assoc, List.getElem?_append_right (by omega)] at hj
      obtain ⟨d, rfl⟩ : ∃ d, j = f0.length + d := ⟨j - f0.length, by omega⟩
      rw [show f0.length + d - f0.length = d by omega] at hj
      match d, hj with
      | 0, hj => obtain rfl : ({ fl with til := u } : Fate) = g := by simpa using hj
                 exact hl
      | 1, hj => obtain rfl : (⟨next, s, 0, false⟩ : Fate) = g := by simpa using hj
                 show next = _
                 omega
      | d + 2, hj => simp at hj
  · have hn := h.next_
    simp only [List.length_append, List.length_cons, List.length_nil]
    omega
theorem Lives.rotate_no (h : Lives f0 fl next) (s : Bs 32) {u : Int} (hm : next < 9223372036854775807) (hno : u ≤ 0 ∨ 8 ≤ (live f0).length + 1) : ∃ n, n ≠ 0 ∧ rotateF ⟨live f0 ++ [fl.key], next⟩ s u = (zRg, n) := by
  have hf := h.ring.few
  rw [h.ring.rotate]
  by_cases h1 : u < 1
  · exact ⟨52, by decide, by rw [if_pos h1]⟩
  · exact ⟨51, by decide, by rw [if_neg h1, if_pos (by omega)]⟩
/-- The fates, pruned up to one. -/
def prun (t : Int) (l : List Fate) (k : Nat) : List Fate := (l.take k).map (prF t) ++ l.drop k
theorem prun_zero (t : Int) (l : List Fate) : prun t l 0 = l := by simp [prun]
theorem prun_len (t : Int) (l : List Fate) (k : Nat) : (prun t l k).length = l.length := by
  unfold prun
  rw [List.length_append, List.length_map, ← List.length_append, List.take_append_drop]
theorem prun_get {t : Int} {l : List Fate} {k : Nat} {f : Fate} (h : l[k]? = some f) : (prun t l k)[k]? = some f := by
  have hk := (List.getElem?_eq_some_iff.1 h).1
  unfold prun
  rw [List.getElem?_append_right (by simp; omega), List.getElem?_drop]
  simp only [List.length_map, List.length_take]
  rw [show k + (k - min k l.length) = k by omega]
  exact h
theorem prun_set {t : Int} {l : List Fate} {k : Nat} {f : Fate} (h : l[k]? = some f) : (prun t l k).set k (prF t f) = prun t l (k + 1) := by
  have hk := (List.getElem?_eq_some_iff.1 h).1
  have hv := (List.getElem?_eq_some_iff.1 h).2
  unfold prun
  have e : ((l.take k).map (prF t)).length = k := by simp; omega
  rw [List.set_append_right _ _ (by omega), e, Nat.sub_self, List.drop_eq_getElem_cons hk, List.set_cons_zero, List.take_succ_eq_append_getElem hk, List.map_append, hv]
  simp
theorem Lives.prun_all (h : Lives f0 fl next) (t : Int) : prun t (f0 ++ [fl]) (f0.length + 1) = f0.map (prF t) ++ [fl] := by
  unfold prun
  rw [List.take_of_length_le (by simp), List.drop_eq_nil_of_le (by simp), List.append_nil, List.map_append, List.map_cons, List.map_nil, h.prF_last]
end
theorem cv_row_69_2 : row? Try.prog 69 2 = true := by kernel_rfl
theorem cv_ent_31 : ent? Try.prog 31 = true := by kernel_rfl
theorem cv_ent_22 : ent? Try.prog 22 = true := by kernel_rfl
theorem cv_fa_69_1_1 : fa? Try.prog 69 1 1 = true := by kernel_rfl
theorem cv_one_67 : one? Try.prog 67 = true := by kernel_rfl
theorem cv_sl_97_35 : sl? Try.prog 97 35 = true := by kernel_rfl
theorem cv_cv_3_67_u64 : cv? Try.prog 3 67 .u64 = true := by kernel_rfl
theorem cv_follows_mixedOrders : Try.prog.follows .mixedOrders = true := by kernel_rfl
theorem cv_fa_96_0_0 : fa? Try.prog 96 0 0 = true := by kernel_rfl
theorem cv_ent_30 : ent? Try.prog 30 = true := by kernel_rfl
theorem cv_fa_96_3_34 : fa? Try.prog 96 3 34 = true := by kernel_rfl
theorem cv_one_4 : one? Try.prog 4 = true := by kernel_rfl
theorem cv_bool_4 : bool? Try.prog 4 = true := by kernel_rfl
theorem cv_row_107_34 : row? Try.prog 107 34 = true := by kernel_rfl
theorem cv_fa_96_1_1 : fa? Try.prog 96 1 1 = true := by kernel_rfl
theorem cv_row_70_32 : row? Try.prog 70 32 = true := by kernel_rfl
theorem cv_fa_96_2_33 : fa? Try.prog 96 2 33 = true := by kernel_rfl
theorem cv_one_2 : one? Try.prog 2 = true := by kernel_rfl
theorem cv_ent_29 : ent? Try.prog 29 = true := by kernel_rfl
theorem cv_fa_107_0_0 : fa? Try.prog 107 0 0 = true := by kernel_rfl
theorem cv_fa_69_0_0 : fa? Try.prog 69 0 0 = true := by kernel_rfl
theorem cv_one_55 : one? Try.prog 55 = true := by kernel_rfl
theorem cv_sl_55_34 : sl? Try.prog 55 34 = true := by kernel_rfl
set_option maxHeartbeats 4000000 in
set_option maxRecDepth 100000 in
theorem stands_any {f0 : List Fate} {fl : Fate} {next : Int} (h : Lives f0 fl next) (A : Option Addr) (c : Nat) (B : Option Addr) (d : Nat) (w : World) (O_r : RO w A c ⟨live f0 ++ [fl.key], next⟩) (hC : kFate.C w B (f0.length + 1) (f0 ++ [fl])) (hfew : f0.length ≤ 1000) :
    Calls Try.prog 27 #[.agg #[.slice A ((live f0).length + 1) c, .int .u64 next], .slice B (f0.length + 1) d] w fun e w' => e = .returned (.bool true) ∧ Below w.heap.size w w' := by
 refine calls_start Try.func27 rfl rfl rfl (fun a F => ?_)
 have M : Mm w w [] := Mm.nil w
 refine wp_seq ?_
 refine wp_region_lit ?_
 refine list_do (wn rfl) (fun K hK => ?_)
 refine ow_box F M rfl rfl 69 _ rfl _ (F.e rfl) #[.slice A ((live f0).length + 1) c, .int .u64 next] rfl ?_
 clear F M a; intro a g2 v F M hb hg
 refine hK _ _ ?_
 clear hK K
 replace O_r := O_r.below hb
 clear hb hg; try clear w
 refine list_val F (wn rfl) rfl rfl (.bool false) (ex_assign _ rfl _ rfl) ?_; clear F a; intro a F
 refine wpList_nil ?_
 replace F : Fr 109 a [(0, .agg #[.slice A ((live f0).length + 1) c, .int .u64 next]), (1, .slice B (f0.length + 1) d), (2, .pointer (some ⟨g2, 0, none⟩)), (4, .bool false)] := F.keep ⟨rfl, rfl, rfl, rfl, trivial⟩
 refine then_n ?_
 refine wp_seq ?_
 refine wp_seq ?_
 refine wp_region_lit ?_
 refine list_val F (wn rfl) rfl rfl (.agg #[.slice A ((live f0).length + 1) c, .int .u64 next]) (ex_load _ _ rfl _ (F.e rfl) _ (lvr (cs := [.slice A ((live f0).length + 1) c, .int .u64 next]) cv_row_69_2 (M.at (i := 0) rfl))) ?_; clear F a; intro a F
 refine list_do (wn rfl) (fun K hK => ?_)
 refine ow_call rfl rfl F 31 #[.agg #[.slice A ((live f0).length + 1) c, .int .u64 next]] (ex_call 31 _ _ rfl rfl cv_ent_31 _ (map1 (F.e rfl))) (check_r h.ring _ _ _ O_r) (fun e u hR => ?_)
 obtain ⟨he, hb⟩ := hR
 refine ⟨.int .i64 0, he, ?_⟩; clear he F a; intro a F
 refine hK _ _ ?_
 clear hK K
 replace O_r := O_r.below hb
 replace M := M.below hb; clear hb; try clear v
 refine list_do (wn rfl) (fun K hK => ?_)
 refine ow_call rfl rfl F 22 #[.int .i64 0] (ex_call 22 _ _ rfl rfl cv_ent_22 _ (map1 (F.e rfl))) (num_any _ _) (fun e v hR => ?_)
 obtain ⟨he, hw⟩ := hR
 refine ⟨.int .i64 0, he, ?_⟩; clear he F a; intro a F
 obtain rfl := hw
 refine hK _ _ ?_
 clear hK K
 refine list_val F (wn rfl) rfl rfl (.bool false) (ex_bin .neq _ _ _ _ rfl .i64 _ _ (F.e rfl) rfl _ (b_neq (by decide))) ?_; clear F a; intro a F
 refine list_val F (wn rfl) rfl rfl (.bool false) (ex_move _ rfl _ (F.e rfl)) ?_; clear F a; intro a F
 refine list_val F (F.wants 17 false rfl (by kernel_rfl) rfl true rfl) rfl rfl (.pointer (some ⟨g2, 1, none⟩)) (ex_fa _ _ _ rfl _ (F.e rfl) 1 cv_fa_69_1_1 ⟨g2, 1, none⟩ rfl) ?_; clear F a; intro a F
 refine list_val F (F.wants 17 false rfl (by kernel_rfl) rfl true rfl) rfl rfl (.int .u64 next) (ex_load _ _ rfl _ (F.e rfl) _ (lv1 cv_one_67 (M.cell (i := 0) rfl (j := 1) rfl))) ?_; clear F a; intro a F
 refine list_val F (F.wants 17 false rfl (by kernel_rfl) rfl true rfl) rfl rfl (.slice B (f0.length + 1) d) (ex_move _ rfl _ (F.e rfl)) ?_; clear F a; intro a F
 refine list_val F (F.wants 17 false rfl (by kernel_rfl) rfl true rfl) rfl rfl (.int .i64 (((f0.length + 1) : Nat) : Int)) (ex_len _ _ rfl 35 cv_sl_97_35 _ _ _ (F.e rfl)) ?_; clear F a; intro a F
 refine list_val F (F.wants 17 false rfl (by kernel_rfl) rfl true rfl) rfl rfl (.int .i64 ((f0.length : Int) + 2)) (ex_bin .add _ _ _ _ rfl .i64 _ _ (F.e rfl) rfl _ (b_add ((w_i64 (by omega) (by omega)).trans (by omega)))) ?_; clear F a; intro a F
 refine list_val F (F.wants 17 false rfl (by kernel_rfl) rfl true rfl) rfl rfl (.int .u64 ((f0.length : Int) + 2)) (ex_conv _ _ _ rfl _ .u64 cv_cv_3_67_u64 _ (F.e rfl) _ (w_u64 (by omega) (by omega))) ?_; clear F a; intro a F
 refine list_val F (F.wants 17 false rfl (by kernel_rfl) rfl true rfl) rfl rfl (.bool false) (ex_bin .neq _ _ _ _ rfl .u64 _ _ (F.e rfl) (F.e rfl) _ (b_neq (by rw [bne_eq_false_iff_eq, h.next_]))) ?_; clear F a; intro a F
 refine list_val F (wn rfl) rfl rfl (.bool false) (ex_pick_f _ _ _ rfl (F.e rfl) _ (F.e rfl)) ?_; clear F a; intro a F
 refine wpList_nil ?_
 replace F : Fr 109 a [(0, .agg #[.slice A ((live f0).length + 1) c, .int .u64 next]), (1, .slice B (f0.length + 1) d), (2, .pointer (some ⟨g2, 0, none⟩)), (4, .bool false), (25, .bool false)] := F.keep ⟨rfl, rfl, rfl, rfl, rfl, trivial⟩
 refine then_n ?_
 refine wp_cond_false (F.e rfl) ?_
 refine wp_skip ?_
 refine then_n ?_
 refine wp_seq ?_
 refine wp_region_lit ?_
 refine list_val F (wn rfl) rfl rfl (.int .i64 0) (ex_assign _ rfl _ rfl) ?_; clear F a; intro a F
 refine wpList_nil ?_
 replace F : Fr 109 a [(0, .agg #[.slice A ((live f0).length + 1) c, .int .u64 next]), (1, .slice B (f0.length + 1) d), (2, .pointer (some ⟨g2, 0, none⟩)), (4, .bool false), (5, .int .i64 0), (25, .bool false)] := F.keep ⟨rfl, rfl, rfl, rfl, rfl, rfl, trivial⟩
 refine then_n ?_
 refine wp_seq ?_
 refine wp_seq ?_
 refine wp_region_lit ?_
 refine list_val F (wn rfl) rfl rfl (.int .i64 0) (ex_assign _ rfl _ rfl) ?_; clear F a; intro a F
 refine wpList_nil ?_
 replace F : Fr 109 a [(0, .agg #[.slice A ((live f0).length + 1) c, .int .u64 next]), (1, .slice B (f0.length + 1) d), (2, .pointer (some ⟨g2, 0, none⟩)), (4, .bool false), (5, .int .i64 0), (6, .int .i64 0), (25, .bool false)] := F.keep ⟨rfl, rfl, rfl, rfl, rfl, rfl, rfl, trivial⟩
 refine then_n ?_
 refine wp_block ?_
 refine wp_loopN (fun mq ar wr => ∃ (i : Nat), ∃ (nn : Nat), Fr 109 ar [(0, .agg #[.slice A ((live f0).length + 1) c, .int .u64 next]), (1, .slice B (f0.length + 1) d), (2, .pointer (some ⟨g2, 0, none⟩)), (4, .bool false), (5, .int .i64 nn), (6, .int .i64 i), (25, .bool false)] ∧ Mm w wr [⟨g2, #[.slice A ((live f0).length + 1) c, .int .u64 next], 69⟩] ∧ RO wr A c ⟨live f0 ++ [fl.key], next⟩ ∧ i ≤ f0.length + 1 ∧ nn = alv (f0 ++ [fl]) i ∧ mq + i = (f0.length + 1)) (f0.length + 1) ?_ ?_
 ·
  exact ⟨0, 0, F.keep ⟨rfl, rfl, rfl, rfl, rfl, rfl, rfl, trivial⟩, (by refine M.pick' [0] _ ?_ (by decide); exact ⟨rfl, trivial⟩), O_r, (Nat.zero_le _), (alv_zero _).symm, (by omega)⟩
 clear F M a O_r
 rintro mq a v ⟨i, nn, F, M, O_r, hi, hn, hq⟩; try clear u
 by_cases hc1 : i < f0.length + 1
 ·
  obtain ⟨f, hfi⟩ : ∃ f, (f0 ++ [fl])[i]? = some f := ⟨_, List.getElem?_eq_getElem (by simp; omega)⟩
  obtain ⟨adb, rfl, zf⟩ := at_Fate hC hfi
  have hal := alv_le (f0 ++ [fl]) i
  by_cases hgn : f.gone = true
  ·
   refine wp_seq ?_
   refine wp_seq ?_
   refine wp_region_lit ?_
   refine list_val F (wn rfl) rfl rfl (.int .i64 i) (ex_move _ rfl _ (F.e rfl)) ?_; clear F a; intro a F
   refine list_val F (wn rfl) rfl rfl (.slice (some adb) (f0.length + 1) d) (ex_move _ rfl _ (F.e rfl)) ?_; clear F a; intro a F
   refine list_val F (wn rfl) rfl rfl (.int .i64 (((f0.length + 1) : Nat) : Int)) (ex_len _ _ rfl 35 cv_sl_97_35 _ _ _ (F.e rfl)) ?_; clear F a; intro a F
   refine list_val F (wn rfl) rfl rfl (.bool true) (ex_bin .lss _ _ _ _ rfl .i64 _ _ (F.e rfl) (F.e rfl) _ (b_lss (decide_eq_true (by omega)))) ?_; clear F a; intro a F
   refine wpList_nil ?_
   replace F : Fr 109 a [(0, .agg #[.slice A ((live f0).length + 1) c, .int .u64 next]), (1, .slice (some adb) (f0.length + 1) d), (2, .pointer (some ⟨g2, 0, none⟩)), (4, .bool false), (5, .int .i64 nn), (6, .int .i64 i), (25, .bool false), (29, .bool true)] := F.keep ⟨rfl, rfl, rfl, rfl, rfl, rfl, rfl, rfl, trivial⟩
   refine then_n ?_
   refine wp_cond_true (F.e rfl) ?_
   refine wp_skip ?_
   refine then_n ?_
   refine wp_seq ?_
   refine wp_block ?_
   refine wp_seq ?_
   refine wp_only (fun ar wr => ∃ (g7 : Nat), Fr 109 ar [(0, .agg #[.slice A ((live f0).length + 1) c, .int .u64 next]), (1, .slice (some adb) (f0.length + 1) d), (2, .pointer (some ⟨g2, 0, none⟩)), (4, .bool false), (5, .int .i64 nn), (6, .int .i64 i), (7, .pointer (some ⟨g7, 0, none⟩)), (8, .bool false), (25, .bool false), (29, .bool true)] ∧ Mm w wr [⟨g7, zKey.arr, 107⟩, ⟨g2, #[.slice A ((live f0).length + 1) c, .int .u64 next], 69⟩] ∧ RO wr A c ⟨live f0 ++ [fl.key], next⟩) ?_ ?_
   ·
    refine region_any cv_follows_mixedOrders M ?_; clear M; intro wD M hb
    replace O_r := O_r.below hb
    clear hb; try clear v
    have hS : Below wD.heap.size wD wD := Below.refl _ _; have MD := M
    have D_O_r := O_r
    refine any_val F 0 rfl (by kernel_rfl) (wn rfl) rfl rfl (.agg #[.slice A ((live f0).length + 1) c, .int .u64 next]) (fun w' hS' => ex_load _ _ rfl _ (F.e rfl) _ (lvr (cs := [.slice A ((live f0).length + 1) c, .int .u64 next]) cv_row_69_2 ((MD.below hS').at (i := 0) rfl))) hS ?_; clear F a; intro a F
    refine any_val F 1 rfl (by kernel_rfl) (wn rfl) rfl rfl (.slice (some adb) (f0.length + 1) d) (fun w' hS' => ex_move _ rfl _ (F.e rfl)) hS ?_; clear F a; intro a F
    refine any_val F 2 rfl (by kernel_rfl) (wn rfl) rfl rfl (.int .i64 i) (fun w' hS' => ex_move _ rfl _ (F.e rfl)) hS ?_; clear F a; intro a F
    refine any_val F 3 rfl (by kernel_rfl) (wn rfl) rfl rfl (.pointer (some (adb.add (i * 35)))) (fun w' hS' => ex_ix _ _ _ rfl 35 cv_sl_97_35 adb _ _ (F.e rfl) .i64 _ (F.e rfl) i rfl (by omega) (adb.add (i * 35)) rfl) hS ?_; clear F a; intro a F
    refine any_val F 4 rfl (by kernel_rfl) (wn rfl) rfl rfl (.pointer (some (adb.add (i * 35)))) (fun w' hS' => ex_fa _ _ _ rfl _ (F.e rfl) 0 cv_fa_96_0_0 (adb.add (i * 35)) rfl) hS ?_; clear F a; intro a F
    refine any_val F 5 rfl (by kernel_rfl) (wn rfl) rfl rfl (.int .u64 f.kid) (fun w' hS' => ex_load _ _ rfl _ (F.e rfl) _ (lv1 cv_one_67 ((zf.below (MD.below hS').bel).cell 0 _ (Fate.cs_0 _)))) hS ?_; clear F a; intro a F
    refine any_ready [6, 10] (by kernel_rfl) (by simp) ?_
    refine ready_do rfl (wn rfl) (fun K hK => ?_) ?_
    ·
     refine ow_call rfl rfl F 30 #[.agg #[.slice A ((live f0).length + 1) c, .int .u64 next], .int .u64 f.kid] (ex_call 30 _ _ rfl rfl cv_ent_30 _ (map2 (F.e rfl) (F.e rfl))) (find_n _ _ _ O_r (h.find_gone hfi hgn)) (fun e v hR => ?_)
     obtain ⟨he, hb⟩ := hR
     refine ⟨.tuple #[.agg zKey.arr, .bool false], he, ?_⟩; clear he F a; intro a F
     refine hK _ _ (S_below hS hb) ?_
     replace hS := S_below hS hb
     clear hK K
     replace O_r := O_r.below hb
     replace M := M.below hb; clear hb; try clear wD
     refine any_val F 7 rfl (by kernel_rfl) (wn rfl) rfl rfl (.tuple #[.agg zKey.arr, .bool false]) (fun w' hS' => ex_move _ rfl _ (F.e rfl)) hS ?_; clear F a; intro a F
     refine any_val F 8 rfl (by kernel_rfl) (wn rfl) rfl rfl (.agg zKey.arr) (fun w' hS' => ex_extract _ _ rfl _ (F.e rfl) _ rfl) hS ?_; clear F a; intro a F
     refine any_val F 9 rfl (by kernel_rfl) (wn rfl) rfl rfl (.bool false) (fun w' hS' => ex_extract _ _ rfl _ (F.e rfl) _ rfl) hS ?_; clear F a; intro a F
     refine any_ready [10] (by kernel_rfl) (by simp) ?_
     refine ready_do rfl (wn rfl) (fun K hK => ?_) AllReadyH.nil
     refine ow_alloc F M rfl rfl 107 rfl (.agg zKey.arr) zero107 zKey.arr rfl ?_
     clear F M a; intro a g7 u F M hb hg
     have los_g7 := Nat.le_trans hS.size hg
     refine hK _ _ (S_below hS hb) ?_
     replace hS := S_below hS hb
     clear hK K
     have K_O_r := O_r
     replace O_r := O_r.below hb
     have hz_g7 := hb; have lo_g7 := hg
     clear hb hg; try clear v
     refine any_ready [11] (by kernel_rfl) (by simp) ?_
     refine ready_do rfl (wn rfl) (fun K hK => ?_) AllReadyH.nil
     refine ow_put F M rfl 107 _ _ rfl 0 _ zKey.arr _ rfl (F.e rfl) zKey.arr (F.e rfl) (by rw [Key.arr_size]; exact info107) (by simp only [Key.arr_size]) (Key.arr_one _) ?_
     clear F a; have Mo := M; clear M; intro a v F M hgr
     refine hK _ _ (S_grown hS hgr los_g7) ?_
     replace hS := S_grown hS hgr los_g7
     clear hK K
     have hzz := S_grown hz_g7 hgr lo_g7
     replace O_r := K_O_r.below hzz
     clear hzz hz_g7 lo_g7 K_O_r
     clear Mo hgr; try clear u
     replace M : Mm w v [⟨g7, zKey.arr, 107⟩, ⟨g2, #[.slice A ((live f0).length + 1) c, .int .u64 next], 69⟩] := M
     refine any_val F 12 rfl (by kernel_rfl) (wn rfl) rfl rfl (.bool false) (fun w' hS' => ex_assign _ rfl _ (F.e rfl)) hS ?_; clear F a; intro a F
     refine any_done (by kernel_rfl) ?_
     exact ⟨g7, F.keep ⟨rfl, rfl, rfl, rfl, rfl, rfl, rfl, rfl, rfl, rfl, trivial⟩, (by refine M.pick' [0, 1] _ ?_ (by decide); exact ⟨rfl, rfl, trivial⟩), O_r⟩
    refine ready_do rfl (wn rfl) (fun K hK => ?_) AllReadyH.nil
    refine ow_alloc F M rfl rfl 107 rfl (.agg zKey.arr) zero107 zKey.arr rfl ?_
    clear F M a; intro a g7 v F M hb hg
    have los_g7 := Nat.le_trans hS.size hg
    refine hK _ _ (S_below hS hb) ?_
    replace hS := S_below hS hb
    clear hK K
    have K_O_r := O_r
    replace O_r := O_r.below hb
    have hz_g7 := hb; have lo_g7 := hg
    clear hb hg; try clear wD
    refine any_ready [6] (by kernel_rfl) (by simp) ?_
    refine ready_do rfl (wn rfl) (fun K hK => ?_) AllReadyH.nil
    refine ow_call rfl rfl F 30 #[.agg #[.slice A ((live f0).length + 1) c, .int .u64 next], .int .u64 f.kid] (ex_call 30 _ _ rfl rfl cv_ent_30 _ (map2 (F.e rfl) (F.e rfl))) (find_n _ _ _ O_r (h.find_gone hfi hgn)) (fun e u hR => ?_)
    obtain ⟨he, hb⟩ := hR
    refine ⟨.tuple #[.agg zKey.arr, .bool false], he, ?_⟩; clear he F a; intro a F
    refine hK _ _ (S_below hS hb) ?_
    replace hS := S_below hS hb
    clear hK K
    replace O_r := O_r.below hb
    replace hz_g7 := S_below hz_g7 hb
    replace M := M.below hb; clear hb; try clear v
    refine any_val F 7 rfl (by kernel_rfl) (wn rfl) rfl rfl (.tuple #[.agg zKey.arr, .bool false]) (fun w' hS' => ex_move _ rfl _ (F.e rfl)) hS ?_; clear F a; intro a F
    refine any_val F 8 rfl (by kernel_rfl) (wn rfl) rfl rfl (.agg zKey.arr) (fun w' hS' => ex_extract _ _ rfl _ (F.e rfl) _ rfl) hS ?_; clear F a; intro a F
    refine any_val F 9 rfl (by kernel_rfl) (wn rfl) rfl rfl (.bool false) (fun w' hS' => ex_extract _ _ rfl _ (F.e rfl) _ rfl) hS ?_; clear F a; intro a F
    refine any_ready [11] (by kernel_rfl) (by simp) ?_
    refine ready_do rfl (wn rfl) (fun K hK => ?_) AllReadyH.nil
    refine ow_put F M rfl 107 _ _ rfl 0 _ zKey.arr _ rfl (F.e rfl) zKey.arr (F.e rfl) (by rw [Key.arr_size]; exact info107) (by simp only [Key.arr_size]) (Key.arr_one _) ?_
    clear F a; have Mo := M; clear M; intro a v F M hgr
    refine hK _ _ (S_grown hS hgr los_g7) ?_
    replace hS := S_grown hS hgr los_g7
    clear hK K
    have hzz := S_grown hz_g7 hgr lo_g7
    replace O_r := K_O_r.below hzz
    clear hzz hz_g7 lo_g7 K_O_r
    clear Mo hgr; try clear u
    replace M : Mm w v [⟨g7, zKey.arr, 107⟩, ⟨g2, #[.slice A ((live f0).length + 1) c, .int .u64 next], 69⟩] := M
    refine any_val F 12 rfl (by kernel_rfl) (wn rfl) rfl rfl (.bool false) (fun w' hS' => ex_assign _ rfl _ (F.e rfl)) hS ?_; clear F a; intro a F
    refine any_done (by kernel_rfl) ?_
    exact ⟨g7, F.keep ⟨rfl, rfl, rfl, rfl, rfl, rfl, rfl, rfl, rfl, rfl, trivial⟩, (by refine M.pick' [0, 1] _ ?_ (by decide); exact ⟨rfl, rfl, trivial⟩), O_r⟩
   clear F M a O_r
   intro a u hR; obtain ⟨g7, F, M, O_r⟩ := hR; try clear v
   refine then_n ?_
   refine wp_seq ?_
   refine wp_seq ?_
   refine region_tail 29 cv_follows_mixedOrders (by kernel_rfl) M ?_; clear M; intro v M hb
   replace O_r := O_r.below hb
   clear hb; try clear u
   refine still_val F (wn rfl) rfl rfl (.bool false) (ex_move _ rfl _ (F.e rfl)) ?_; clear F a; intro a F
   refine still_val F (wn rfl) rfl rfl (.slice (some adb) (f0.length + 1) d) (ex_move _ rfl _ (F.e rfl)) ?_; clear F a; intro a F
   refine still_val F (wn rfl) rfl rfl (.int .i64 i) (ex_move _ rfl _ (F.e rfl)) ?_; clear F a; intro a F
   refine still_val F (wn rfl) rfl rfl (.pointer (some (adb.add (i * 35)))) (ex_ix _ _ _ rfl 35 cv_sl_97_35 adb _ _ (F.e rfl) .i64 _ (F.e rfl) i rfl (by omega) (adb.add (i * 35)) rfl) ?_; clear F a; intro a F
   refine still_val F (wn rfl) rfl rfl (.pointer (some ((adb.add (i * 35)).add 34))) (ex_fa _ _ _ rfl _ (F.e rfl) 34 cv_fa_96_3_34 ((adb.add (i * 35)).add 34) rfl) ?_; clear F a; intro a F
   refine still_val F (wn rfl) rfl rfl (.bool true) (ex_load _ _ rfl _ (F.e rfl) _ (lv1 cv_one_4 ((zf.below M.bel).cell 34 _ (by rw [Fate.cs_34, hgn])))) ?_; clear F a; intro a F
   refine still_val F (wn rfl) rfl rfl (.bool false) (ex_eqb _ _ _ _ rfl cv_bool_4 false true (F.e rfl) (F.e rfl) false rfl) ?_; clear F a; intro a F
   refine still_val F (wn rfl) rfl rfl (.bool false) (ex_move _ rfl _ (F.e rfl)) ?_; clear F a; intro a F
   refine still_val F (F.wants 49 false rfl (by kernel_rfl) rfl true rfl) rfl rfl (.bool false) (ex_move _ rfl _ (F.e rfl)) ?_; clear F a; intro a F
   refine still_val F (F.wants 49 false rfl (by kernel_rfl) rfl true rfl) rfl rfl (.bool false) (ex_move _ rfl _ (F.e rfl)) ?_; clear F a; intro a F
   refine still_skip F (F.wants 51 false rfl (by kernel_rfl) rfl false rfl) rfl rfl ?_; clear F a; intro a F
   refine still_skip F (F.wants 51 false rfl (by kernel_rfl) rfl false rfl) rfl rfl ?_; clear F a; intro a F
   refine still_skip F (F.wants 51 false rfl (by kernel_rfl) rfl false rfl) rfl rfl ?_; clear F a; intro a F
   refine still_skip F (F.wants 51 false rfl (by kernel_rfl) rfl false rfl) rfl rfl ?_; clear F a; intro a F
   refine still_skip F (F.wants 51 false rfl (by kernel_rfl) rfl false rfl) rfl rfl ?_; clear F a; intro a F
   refine still_skip F (F.wants 51 false rfl (by kernel_rfl) rfl false rfl) rfl rfl ?_; clear F a; intro a F
   refine still_skip F (F.wants 51 false rfl (by kernel_rfl) rfl false rfl) rfl rfl ?_; clear F a; intro a F
   refine still_skip F (F.wants 51 false rfl (by kernel_rfl) rfl false rfl) rfl rfl ?_; clear F a; intro a F
   refine still_skip F (F.wants 51 false rfl (by kernel_rfl) rfl false rfl) rfl rfl ?_; clear F a; intro a F
   refine still_skip F (F.wants 51 false rfl (by kernel_rfl) rfl false rfl) rfl rfl ?_; clear F a; intro a F
   refine still_skip F (F.wants 51 false rfl (by kernel_rfl) rfl false rfl) rfl rfl ?_; clear F a; intro a F
   refine still_skip F (F.wants 51 false rfl (by kernel_rfl) rfl false rfl) rfl rfl ?_; clear F a; intro a F
   refine still_skip F (F.wants 51 false rfl (by kernel_rfl) rfl false rfl) rfl rfl ?_; clear F a; intro a F
   refine still_skip F (F.wants 51 false rfl (by kernel_rfl) rfl false rfl) rfl rfl ?_; clear F a; intro a F
   refine still_skip F (F.wants 51 false rfl (by kernel_rfl) rfl false rfl) rfl rfl ?_; clear F a; intro a F
   refine still_skip F (F.wants 51 false rfl (by kernel_rfl) rfl false rfl) rfl rfl ?_; clear F a; intro a F
   refine still_skip F (F.wants 51 false rfl (by kernel_rfl) rfl false rfl) rfl rfl ?_; clear F a; intro a F
   refine still_skip F (F.wants 51 false rfl (by kernel_rfl) rfl false rfl) rfl rfl ?_; clear F a; intro a F
   refine still_val F (F.wants 49 false rfl (by kernel_rfl) rfl true rfl) rfl rfl (.bool false) (ex_pick_f _ _ _ rfl (F.e rfl) _ rfl) ?_; clear F a; intro a F
   refine still_end ?_
   refine list_val F (wn rfl) rfl rfl (.bool false) (ex_pick_f _ _ _ rfl (F.e rfl) _ (F.e rfl)) ?_; clear F a; intro a F
   refine wpList_nil ?_
   replace F : Fr 109 a [(0, .agg #[.slice A ((live f0).length + 1) c, .int .u64 next]), (1, .slice (some adb) (f0.length + 1) d), (2, .pointer (some ⟨g2, 0, none⟩)), (4, .bool false), (5, .int .i64 nn), (6, .int .i64 i), (7, .pointer (some ⟨g7, 0, none⟩)), (8, .bool false), (25, .bool false), (29, .bool true), (71, .bool false)] := F.keep ⟨rfl, rfl, rfl, rfl, rfl, rfl, rfl, rfl, rfl, rfl, rfl, trivial⟩
   refine then_n ?_
   refine wp_cond_false (F.e rfl) ?_
   refine wp_skip ?_
   refine then_n ?_
   refine wp_seq ?_
   refine wp_region_lit ?_
   refine list_val F (wn rfl) rfl rfl (.bool false) (ex_move _ rfl _ (F.e rfl)) ?_; clear F a; intro a F
   refine wpList_nil ?_
   replace F : Fr 109 a [(0, .agg #[.slice A ((live f0).length + 1) c, .int .u64 next]), (1, .slice (some adb) (f0.length + 1) d), (2, .pointer (some ⟨g2, 0, none⟩)), (4, .bool false), (5, .int .i64 nn), (6, .int .i64 i), (7, .pointer (some ⟨g7, 0, none⟩)), (8, .bool false), (25, .bool false), (29, .bool true), (71, .bool false), (72, .bool false)] := F.keep ⟨rfl, rfl, rfl, rfl, rfl, rfl, rfl, rfl, rfl, rfl, rfl, rfl, trivial⟩
   refine then_n ?_
   refine wp_cond_false (F.e rfl) ?_
   refine wp_skip ?_
   refine in_n ?_
   refine then_n ?_
   refine wp_region_lit ?_
   refine list_val F (wn rfl) rfl rfl (.int .i64 i) (ex_move _ rfl _ (F.e rfl)) ?_; clear F a; intro a F
   refine list_val F (wn rfl) rfl rfl (.int .i64 (i + 1)) (ex_bin .add _ _ _ _ rfl .i64 _ _ (F.e rfl) rfl _ (b_add (w_i64 (by omega) (by omega)))) ?_; clear F a; intro a F
   refine list_val F (wn rfl) rfl rfl (.int .i64 (i + 1)) (ex_assign _ rfl _ (F.e rfl)) ?_; clear F a; intro a F
   refine wpList_nil ?_
   replace F : Fr 109 a [(0, .agg #[.slice A ((live f0).length + 1) c, .int .u64 next]), (1, .slice (some adb) (f0.length + 1) d), (2, .pointer (some ⟨g2, 0, none⟩)), (4, .bool false), (5, .int .i64 nn), (6, .int .i64 (i + 1)), (7, .pointer (some ⟨g7, 0, none⟩)), (8, .bool false), (25, .bool false), (29, .bool true), (71, .bool false), (72, .bool false)] := F.keep ⟨rfl, rfl, rfl, rfl, rfl, rfl, rfl, rfl, rfl, rfl, rfl, rfl, trivial⟩
   refine then_n ?_
   exact ⟨(f0.length + 1) - (i + 1), by omega, (i + 1), nn, F.keep ⟨rfl, rfl, rfl, rfl, rfl, rfl, rfl, trivial⟩, (by refine M.pick' [1] _ ?_ (by decide); exact ⟨rfl, trivial⟩), O_r, (by omega), (by rw [alv_no hfi hgn]; exact hn), (by omega)⟩
  rw [Bool.not_eq_true] at hgn
  refine wp_seq ?_
  refine wp_seq ?_
  refine wp_region_lit ?_
  refine list_val F (wn rfl) rfl rfl (.int .i64 i) (ex_move _ rfl _ (F.e rfl)) ?_; clear F a; intro a F
  refine list_val F (wn rfl) rfl rfl (.slice (some adb) (f0.length + 1) d) (ex_move _ rfl _ (F.e rfl)) ?_; clear F a; intro a F
  refine list_val F (wn rfl) rfl rfl (.int .i64 (((f0.length + 1) : Nat) : Int)) (ex_len _ _ rfl 35 cv_sl_97_35 _ _ _ (F.e rfl)) ?_; clear F a; intro a F
  refine list_val F (wn rfl) rfl rfl (.bool true) (ex_bin .lss _ _ _ _ rfl .i64 _ _ (F.e rfl) (F.e rfl) _ (b_lss (decide_eq_true (by omega)))) ?_; clear F a; intro a F
  refine wpList_nil ?_
  replace F : Fr 109 a [(0, .agg #[.slice A ((live f0).length + 1) c, .int .u64 next]), (1, .slice (some adb) (f0.length + 1) d), (2, .pointer (some ⟨g2, 0, none⟩)), (4, .bool false), (5, .int .i64 nn), (6, .int .i64 i), (25, .bool false), (29, .bool true)] := F.keep ⟨rfl, rfl, rfl, rfl, rfl, rfl, rfl, rfl, trivial⟩
  refine then_n ?_
  refine wp_cond_true (F.e rfl) ?_
  refine wp_skip ?_
  refine then_n ?_
  refine wp_seq ?_
  refine wp_block ?_
  refine wp_seq ?_
  refine wp_only (fun ar wr => ∃ (g7 : Nat), Fr 109 ar [(0, .agg #[.slice A ((live f0).length + 1) c, .int .u64 next]), (1, .slice (some adb) (f0.length + 1) d), (2, .pointer (some ⟨g2, 0, none⟩)), (4, .bool false), (5, .int .i64 nn), (6, .int .i64 i), (7, .pointer (some ⟨g7, 0, none⟩)), (8, .bool true), (25, .bool false), (29, .bool true)] ∧ Mm w wr [⟨g7, f.key.arr, 107⟩, ⟨g2, #[.slice A ((live f0).length + 1) c, .int .u64 next], 69⟩] ∧ RO wr A c ⟨live f0 ++ [fl.key], next⟩) ?_ ?_
  ·
   refine region_any cv_follows_mixedOrders M ?_; clear M; intro wD M hb
   replace O_r := O_r.below hb
   clear hb; try clear v
   have hS : Below wD.heap.size wD wD := Below.refl _ _; have MD := M
   have D_O_r := O_r
   refine any_val F 0 rfl (by kernel_rfl) (wn rfl) rfl rfl (.agg #[.slice A ((live f0).length + 1) c, .int .u64 next]) (fun w' hS' => ex_load _ _ rfl _ (F.e rfl) _ (lvr (cs := [.slice A ((live f0).length + 1) c, .int .u64 next]) cv_row_69_2 ((MD.below hS').at (i := 0) rfl))) hS ?_; clear F a; intro a F
   refine any_val F 1 rfl (by kernel_rfl) (wn rfl) rfl rfl (.slice (some adb) (f0.length + 1) d) (fun w' hS' => ex_move _ rfl _ (F.e rfl)) hS ?_; clear F a; intro a F
   refine any_val F 2 rfl (by kernel_rfl) (wn rfl) rfl rfl (.int .i64 i) (fun w' hS' => ex_move _ rfl _ (F.e rfl)) hS ?_; clear F a; intro a F
   refine any_val F 3 rfl (by kernel_rfl) (wn rfl) rfl rfl (.pointer (some (adb.add (i * 35)))) (fun w' hS' => ex_ix _ _ _ rfl 35 cv_sl_97_35 adb _ _ (F.e rfl) .i64 _ (F.e rfl) i rfl (by omega) (adb.add (i * 35)) rfl) hS ?_; clear F a; intro a F
   refine any_val F 4 rfl (by kernel_rfl) (wn rfl) rfl rfl (.pointer (some (adb.add (i * 35)))) (fun w' hS' => ex_fa _ _ _ rfl _ (F.e rfl) 0 cv_fa_96_0_0 (adb.add (i * 35)) rfl) hS ?_; clear F a; intro a F
   refine any_val F 5 rfl (by kernel_rfl) (wn rfl) rfl rfl (.int .u64 f.kid) (fun w' hS' => ex_load _ _ rfl _ (F.e rfl) _ (lv1 cv_one_67 ((zf.below (MD.below hS').bel).cell 0 _ (Fate.cs_0 _)))) hS ?_; clear F a; intro a F
   refine any_ready [6, 10] (by kernel_rfl) (by simp) ?_
   refine ready_do rfl (wn rfl) (fun K hK => ?_) ?_
   ·
    refine ow_call rfl rfl F 30 #[.agg #[.slice A ((live f0).length + 1) c, .int .u64 next], .int .u64 f.kid] (ex_call 30 _ _ rfl rfl cv_ent_30 _ (map2 (F.e rfl) (F.e rfl))) (find_y _ _ _ O_r (h.find hfi hgn) (h.ring.ne_zero (live_mem_of h hfi hgn))) (fun e v hR => ?_)
    obtain ⟨he, hb⟩ := hR
    refine ⟨.tuple #[.agg f.key.arr, .bool true], he, ?_⟩; clear he F a; intro a F
    refine hK _ _ (S_below hS hb) ?_
    replace hS := S_below hS hb
    clear hK K
    replace O_r := O_r.below hb
    replace M := M.below hb; clear hb; try clear wD
    refine any_val F 7 rfl (by kernel_rfl) (wn rfl) rfl rfl (.tuple #[.agg f.key.arr, .bool true]) (fun w' hS' => ex_move _ rfl _ (F.e rfl)) hS ?_; clear F a; intro a F
    refine any_val F 8 rfl (by kernel_rfl) (wn rfl) rfl rfl (.agg f.key.arr) (fun w' hS' => ex_extract _ _ rfl _ (F.e rfl) _ rfl) hS ?_; clear F a; intro a F
    refine any_val F 9 rfl (by kernel_rfl) (wn rfl) rfl rfl (.bool true) (fun w' hS' => ex_extract _ _ rfl _ (F.e rfl) _ rfl) hS ?_; clear F a; intro a F
    refine any_ready [10] (by kernel_rfl) (by simp) ?_
    refine ready_do rfl (wn rfl) (fun K hK => ?_) AllReadyH.nil
    refine ow_alloc F M rfl rfl 107 rfl (.agg zKey.arr) zero107 zKey.arr rfl ?_
    clear F M a; intro a g7 u F M hb hg
    have los_g7 := Nat.le_trans hS.size hg
    refine hK _ _ (S_below hS hb) ?_
    replace hS := S_below hS hb
    clear hK K
    have K_O_r := O_r
    replace O_r := O_r.below hb
    have hz_g7 := hb; have lo_g7 := hg
    clear hb hg; try clear v
    refine any_ready [11] (by kernel_rfl) (by simp) ?_
    refine ready_do rfl (wn rfl) (fun K hK => ?_) AllReadyH.nil
    refine ow_put F M rfl 107 _ _ rfl 0 _ zKey.arr _ rfl (F.e rfl) f.key.arr (F.e rfl) (by rw [Key.arr_size]; exact info107) (by simp only [Key.arr_size]) (Key.arr_one _) ?_
    clear F a; have Mo := M; clear M; intro a v F M hgr
    refine hK _ _ (S_grown hS hgr los_g7) ?_
    replace hS := S_grown hS hgr los_g7
    clear hK K
    have hzz := S_grown hz_g7 hgr lo_g7
    replace O_r := K_O_r.below hzz
    clear hzz hz_g7 lo_g7 K_O_r
    clear Mo hgr; try clear u
    replace M : Mm w v [⟨g7, f.key.arr, 107⟩, ⟨g2, #[.slice A ((live f0).length + 1) c, .int .u64 next], 69⟩] := M
    refine any_val F 12 rfl (by kernel_rfl) (wn rfl) rfl rfl (.bool true) (fun w' hS' => ex_assign _ rfl _ (F.e rfl)) hS ?_; clear F a; intro a F
    refine any_done (by kernel_rfl) ?_
    exact ⟨g7, F.keep ⟨rfl, rfl, rfl, rfl, rfl, rfl, rfl, rfl, rfl, rfl, trivial⟩, (by refine M.pick' [0, 1] _ ?_ (by decide); exact ⟨rfl, rfl, trivial⟩), O_r⟩
   refine ready_do rfl (wn rfl) (fun K hK => ?_) AllReadyH.nil
   refine ow_alloc F M rfl rfl 107 rfl (.agg zKey.arr) zero107 zKey.arr rfl ?_
   clear F M a; intro a g7 v F M hb hg
   have los_g7 := Nat.le_trans hS.size hg
   refine hK _ _ (S_below hS hb) ?_
   replace hS := S_below hS hb
   clear hK K
   have K_O_r := O_r
   replace O_r := O_r.below hb
   have hz_g7 := hb; have lo_g7 := hg
   clear hb hg; try clear wD
   refine any_ready [6] (by kernel_rfl) (by simp) ?_
   refine ready_do rfl (wn rfl) (fun K hK => ?_) AllReadyH.nil
   refine ow_call rfl rfl F 30 #[.agg #[.slice A ((live f0).length + 1) c, .int .u64 next], .int .u64 f.kid] (ex_call 30 _ _ rfl rfl cv_ent_30 _ (map2 (F.e rfl) (F.e rfl))) (find_y _ _ _ O_r (h.find hfi hgn) (h.ring.ne_zero (live_mem_of h hfi hgn))) (fun e u hR => ?_)
   obtain ⟨he, hb⟩ := hR
   refine ⟨.tuple #[.agg f.key.arr, .bool true], he, ?_⟩; clear he F a; intro a F
   refine hK _ _ (S_below hS hb) ?_
   replace hS := S_below hS hb
   clear hK K
   replace O_r := O_r.below hb
   replace hz_g7 := S_below hz_g7 hb
   replace M := M.below hb; clear hb; try clear v
   refine any_val F 7 rfl (by kernel_rfl) (wn rfl) rfl rfl (.tuple #[.agg f.key.arr, .bool true]) (fun w' hS' => ex_move _ rfl _ (F.e rfl)) hS ?_; clear F a; intro a F
   refine any_val F 8 rfl (by kernel_rfl) (wn rfl) rfl rfl (.agg f.key.arr) (fun w' hS' => ex_extract _ _ rfl _ (F.e rfl) _ rfl) hS ?_; clear F a; intro a F
   refine any_val F 9 rfl (by kernel_rfl) (wn rfl) rfl rfl (.bool true) (fun w' hS' => ex_extract _ _ rfl _ (F.e rfl) _ rfl) hS ?_; clear F a; intro a F
   refine any_ready [11] (by kernel_rfl) (by simp) ?_
   refine ready_do rfl (wn rfl) (fun K hK => ?_) AllReadyH.nil
   refine ow_put F M rfl 107 _ _ rfl 0 _ zKey.arr _ rfl (F.e rfl) f.key.arr (F.e rfl) (by rw [Key.arr_size]; exact info107) (by simp only [Key.arr_size]) (Key.arr_one _) ?_
   clear F a; have Mo := M; clear M; intro a v F M hgr
   refine hK _ _ (S_grown hS hgr los_g7) ?_
   replace hS := S_grown hS hgr los_g7
   clear hK K
   have hzz := S_grown hz_g7 hgr lo_g7
   replace O_r := K_O_r.below hzz
   clear hzz hz_g7 lo_g7 K_O_r
   clear Mo hgr; try clear u
   replace M : Mm w v [⟨g7, f.key.arr, 107⟩, ⟨g2, #[.slice A ((live f0).length + 1) c, .int .u64 next], 69⟩] := M
   refine any_val F 12 rfl (by kernel_rfl) (wn rfl) rfl rfl (.bool true) (fun w' hS' => ex_assign _ rfl _ (F.e rfl)) hS ?_; clear F a; intro a F
   refine any_done (by kernel_rfl) ?_
   exact ⟨g7, F.keep ⟨rfl, rfl, rfl, rfl, rfl, rfl, rfl, rfl, rfl, rfl, trivial⟩, (by refine M.pick' [0, 1] _ ?_ (by decide); exact ⟨rfl, rfl, trivial⟩), O_r⟩
  clear F M a O_r
  intro a u hR; obtain ⟨g7, F, M, O_r⟩ := hR; try clear v
  refine then_n ?_
  refine wp_seq ?_
  refine wp_seq ?_
  refine region_tail 29 cv_follows_mixedOrders (by kernel_rfl) M ?_; clear M; intro v M hb
  replace O_r := O_r.below hb
  clear hb; try clear u
  refine still_val F (wn rfl) rfl rfl (.bool true) (ex_move _ rfl _ (F.e rfl)) ?_; clear F a; intro a F
  refine still_val F (wn rfl) rfl rfl (.slice (some adb) (f0.length + 1) d) (ex_move _ rfl _ (F.e rfl)) ?_; clear F a; intro a F
  refine still_val F (wn rfl) rfl rfl (.int .i64 i) (ex_move _ rfl _ (F.e rfl)) ?_; clear F a; intro a F
  refine still_val F (wn rfl) rfl rfl (.pointer (some (adb.add (i * 35)))) (ex_ix _ _ _ rfl 35 cv_sl_97_35 adb _ _ (F.e rfl) .i64 _ (F.e rfl) i rfl (by omega) (adb.add (i * 35)) rfl) ?_; clear F a; intro a F
  refine still_val F (wn rfl) rfl rfl (.pointer (some ((adb.add (i * 35)).add 34))) (ex_fa _ _ _ rfl _ (F.e rfl) 34 cv_fa_96_3_34 ((adb.add (i * 35)).add 34) rfl) ?_; clear F a; intro a F
  refine still_val F (wn rfl) rfl rfl (.bool false) (ex_load _ _ rfl _ (F.e rfl) _ (lv1 cv_one_4 ((zf.below M.bel).cell 34 _ (by rw [Fate.cs_34, hgn])))) ?_; clear F a; intro a F
  refine still_val F (wn rfl) rfl rfl (.bool false) (ex_eqb _ _ _ _ rfl cv_bool_4 true false (F.e rfl) (F.e rfl) false rfl) ?_; clear F a; intro a F
  refine still_val F (wn rfl) rfl rfl (.bool false) (ex_move _ rfl _ (F.e rfl)) ?_; clear F a; intro a F
  refine still_val F (F.wants 49 false rfl (by kernel_rfl) rfl true rfl) rfl rfl (.bool true) (ex_move _ rfl _ (F.e rfl)) ?_; clear F a; intro a F
  refine still_val F (F.wants 49 false rfl (by kernel_rfl) rfl true rfl) rfl rfl (.bool true) (ex_move _ rfl _ (F.e rfl)) ?_; clear F a; intro a F
  refine still_val F (F.wants 51 true rfl (by kernel_rfl) rfl true rfl) rfl rfl (.agg f.key.arr) (ex_load _ _ rfl _ (F.e rfl) _ (lvr (cs := f.key.cs) (by rw [Key.cs_len]; exact cv_row_107_34) (M.at (i := 0) rfl))) ?_; clear F a; intro a F
  refine still_val F (F.wants 51 true rfl (by kernel_rfl) rfl true rfl) rfl rfl (.slice (some adb) (f0.length + 1) d) (ex_move _ rfl _ (F.e rfl)) ?_; clear F a; intro a F
  refine still_val F (F.wants 51 true rfl (by kernel_rfl) rfl true rfl) rfl rfl (.int .i64 i) (ex_move _ rfl _ (F.e rfl)) ?_; clear F a; intro a F
  refine still_val F (F.wants 51 true rfl (by kernel_rfl) rfl true rfl) rfl rfl (.pointer (some (adb.add (i * 35)))) (ex_ix _ _ _ rfl 35 cv_sl_97_35 adb _ _ (F.e rfl) .i64 _ (F.e rfl) i rfl (by omega) (adb.add (i * 35)) rfl) ?_; clear F a; intro a F
  refine still_val F (F.wants 51 true rfl (by kernel_rfl) rfl true rfl) rfl rfl (.pointer (some (adb.add (i * 35)))) (ex_fa _ _ _ rfl _ (F.e rfl) 0 cv_fa_96_0_0 (adb.add (i * 35)) rfl) ?_; clear F a; intro a F
  refine still_val F (F.wants 51 true rfl (by kernel_rfl) rfl true rfl) rfl rfl (.int .u64 f.kid) (ex_load _ _ rfl _ (F.e rfl) _ (lv1 cv_one_67 ((zf.below M.bel).cell 0 _ (Fate.cs_0 _)))) ?_; clear F a; intro a F
  refine still_val F (F.wants 51 true rfl (by kernel_rfl) rfl true rfl) rfl rfl (.slice (some adb) (f0.length + 1) d) (ex_move _ rfl _ (F.e rfl)) ?_; clear F a; intro a F
  refine still_val F (F.wants 51 true rfl (by kernel_rfl) rfl true rfl) rfl rfl (.int .i64 i) (ex_move _ rfl _ (F.e rfl)) ?_; clear F a; intro a F
  refine still_val F (F.wants 51 true rfl (by kernel_rfl) rfl true rfl) rfl rfl (.pointer (some (adb.add (i * 35)))) (ex_ix _ _ _ rfl 35 cv_sl_97_35 adb _ _ (F.e rfl) .i64 _ (F.e rfl) i rfl (by omega) (adb.add (i * 35)) rfl) ?_; clear F a; intro a F
  refine still_val F (F.wants 51 true rfl (by kernel_rfl) rfl true rfl) rfl rfl (.pointer (some ((adb.add (i * 35)).add 1))) (ex_fa _ _ _ rfl _ (F.e rfl) 1 cv_fa_96_1_1 ((adb.add (i * 35)).add 1) rfl) ?_; clear F a; intro a F
  refine still_val F (F.wants 51 true rfl (by kernel_rfl) rfl true rfl) rfl rfl (.agg f.sec.cs.toArray) (ex_load _ _ rfl _ (F.e rfl) _ (lvr (cs := f.sec.cs) (by rw [Bs.cs_len]; exact cv_row_70_32) (Fate.sec_at ((zf.below M.bel))))) ?_; clear F a; intro a F
  refine still_val F (F.wants 51 true rfl (by kernel_rfl) rfl true rfl) rfl rfl (.slice (some adb) (f0.length + 1) d) (ex_move _ rfl _ (F.e rfl)) ?_; clear F a; intro a F
  refine still_val F (F.wants 51 true rfl (by kernel_rfl) rfl true rfl) rfl rfl (.int .i64 i) (ex_move _ rfl _ (F.e rfl)) ?_; clear F a; intro a F
  refine still_val F (F.wants 51 true rfl (by kernel_rfl) rfl true rfl) rfl rfl (.pointer (some (adb.add (i * 35)))) (ex_ix _ _ _ rfl 35 cv_sl_97_35 adb _ _ (F.e rfl) .i64 _ (F.e rfl) i rfl (by omega) (adb.add (i * 35)) rfl) ?_; clear F a; intro a F
  refine still_val F (F.wants 51 true rfl (by kernel_rfl) rfl true rfl) rfl rfl (.pointer (some ((adb.add (i * 35)).add 33))) (ex_fa _ _ _ rfl _ (F.e rfl) 33 cv_fa_96_2_33 ((adb.add (i * 35)).add 33) rfl) ?_; clear F a; intro a F
  refine still_val F (F.wants 51 true rfl (by kernel_rfl) rfl true rfl) rfl rfl (.int .i64 f.til) (ex_load _ _ rfl _ (F.e rfl) _ (lv1 cv_one_2 ((zf.below M.bel).cell 33 _ (Fate.cs_33 _)))) ?_; clear F a; intro a F
  refine still_val F (F.wants 51 true rfl (by kernel_rfl) rfl true rfl) rfl rfl (.agg f.key.arr) (ex_build 107 _ rfl #[(0, .int .u64 f.kid), (1, .agg f.sec.cs.toArray), (2, .int .i64 f.til)] (parts3 (F.e rfl) (F.e rfl) (F.e rfl)) (.agg f.key.arr) (build107s f.kid f.til f.sec _)) ?_; clear F a; intro a F
  refine still_val F (F.wants 51 true rfl (by kernel_rfl) rfl true rfl) rfl rfl (.bool false) (ex_neqk _ _ _ rfl f.key f.key (F.e rfl) (F.e rfl) false (by simp [Fate.key])) ?_; clear F a; intro a F
  refine still_val F (F.wants 49 false rfl (by kernel_rfl) rfl true rfl) rfl rfl (.bool false) (ex_pick_t _ _ _ rfl (F.e rfl) _ (F.e rfl)) ?_; clear F a; intro a F
  refine still_end ?_
  refine list_val F (wn rfl) rfl rfl (.bool false) (ex_pick_f _ _ _ rfl (F.e rfl) _ (F.e rfl)) ?_; clear F a; intro a F
  refine wpList_nil ?_
  replace F : Fr 109 a [(0, .agg #[.slice A ((live f0).length + 1) c, .int .u64 next]), (1, .slice (some adb) (f0.length + 1) d), (2, .pointer (some ⟨g2, 0, none⟩)), (4, .bool false), (5, .int .i64 nn), (6, .int .i64 i), (7, .pointer (some ⟨g7, 0, none⟩)), (8, .bool true), (25, .bool false), (29, .bool true), (71, .bool false)] := F.keep ⟨rfl, rfl, rfl, rfl, rfl, rfl, rfl, rfl, rfl, rfl, rfl, trivial⟩
  refine then_n ?_
  refine wp_cond_false (F.e rfl) ?_
  refine wp_skip ?_
  refine then_n ?_
  refine wp_seq ?_
  refine wp_region_lit ?_
  refine list_val F (wn rfl) rfl rfl (.bool true) (ex_move _ rfl _ (F.e rfl)) ?_; clear F a; intro a F
  refine wpList_nil ?_
  replace F : Fr 109 a [(0, .agg #[.slice A ((live f0).length + 1) c, .int .u64 next]), (1, .slice (some adb) (f0.length + 1) d), (2, .pointer (some ⟨g2, 0, none⟩)), (4, .bool false), (5, .int .i64 nn), (6, .int .i64 i), (7, .pointer (some ⟨g7, 0, none⟩)), (8, .bool true), (25, .bool false), (29, .bool true), (71, .bool false), (72, .bool true)] := F.keep ⟨rfl, rfl, rfl, rfl, rfl, rfl, rfl, rfl, rfl, rfl, rfl, rfl, trivial⟩
  refine then_n ?_
  refine wp_cond_true (F.e rfl) ?_
  refine wp_region_lit ?_
  refine list_val F (wn rfl) rfl rfl (.int .i64 nn) (ex_move _ rfl _ (F.e rfl)) ?_; clear F a; intro a F
  refine list_val F (wn rfl) rfl rfl (.int .i64 (nn + 1)) (ex_bin .add _ _ _ _ rfl .i64 _ _ (F.e rfl) rfl _ (b_add (w_i64 (by omega) (by omega)))) ?_; clear F a; intro a F
  refine list_val F (wn rfl) rfl rfl (.int .i64 (nn + 1)) (ex_assign _ rfl _ (F.e rfl)) ?_; clear F a; intro a F
  refine wpList_nil ?_
  replace F : Fr 109 a [(0, .agg #[.slice A ((live f0).length + 1) c, .int .u64 next]), (1, .slice (some adb) (f0.length + 1) d), (2, .pointer (some ⟨g2, 0, none⟩)), (4, .bool false), (5, .int .i64 (nn + 1)), (6, .int .i64 i), (7, .pointer (some ⟨g7, 0, none⟩)), (8, .bool true), (25, .bool false), (29, .bool true), (71, .bool false), (72, .bool true)] := F.keep ⟨rfl, rfl, rfl, rfl, rfl, rfl, rfl, rfl, rfl, rfl, rfl, rfl, trivial⟩
  refine in_n ?_
  refine then_n ?_
  refine wp_region_lit ?_
  refine list_val F (wn rfl) rfl rfl (.int .i64 i) (ex_move _ rfl _ (F.e rfl)) ?_; clear F a; intro a F
  refine list_val F (wn rfl) rfl rfl (.int .i64 (i + 1)) (ex_bin .add _ _ _ _ rfl .i64 _ _ (F.e rfl) rfl _ (b_add (w_i64 (by omega) (by omega)))) ?_; clear F a; intro a F
  refine list_val F (wn rfl) rfl rfl (.int .i64 (i + 1)) (ex_assign _ rfl _ (F.e rfl)) ?_; clear F a; intro a F
  refine wpList_nil ?_
  replace F : Fr 109 a [(0, .agg #[.slice A ((live f0).length + 1) c, .int .u64 next]), (1, .slice (some adb) (f0.length + 1) d), (2, .pointer (some ⟨g2, 0, none⟩)), (4, .bool false), (5, .int .i64 (nn + 1)), (6, .int .i64 (i + 1)), (7, .pointer (some ⟨g7, 0, none⟩)), (8, .bool true), (25, .bool false), (29, .bool true), (71, .bool false), (72, .bool true)] := F.keep ⟨rfl, rfl, rfl, rfl, rfl, rfl, rfl, rfl, rfl, rfl, rfl, rfl, trivial⟩
  refine then_n ?_
  exact ⟨(f0.length + 1) - (i + 1), by omega, (i + 1), (nn + 1), F.keep ⟨rfl, rfl, rfl, rfl, rfl, rfl, rfl, trivial⟩, (by refine M.pick' [1] _ ?_ (by decide); exact ⟨rfl, trivial⟩), O_r, (by omega), (by rw [alv_yes hfi hgn, hn]), (by omega)⟩
 have hne : nn = (live f0).length + 1 := by rw [hn]; exact h.count (by omega)
 refine wp_seq ?_
 refine wp_seq ?_
 refine wp_region_lit ?_
 refine list_val F (wn rfl) rfl rfl (.int .i64 i) (ex_move _ rfl _ (F.e rfl)) ?_; clear F a; intro a F
 refine list_val F (wn rfl) rfl rfl (.slice B (f0.length + 1) d) (ex_move _ rfl _ (F.e rfl)) ?_; clear F a; intro a F
 refine list_val F (wn rfl) rfl rfl (.int .i64 (((f0.length + 1) : Nat) : Int)) (ex_len _ _ rfl 35 cv_sl_97_35 _ _ _ (F.e rfl)) ?_; clear F a; intro a F
 refine list_val F (wn rfl) rfl rfl (.bool false) (ex_bin .lss _ _ _ _ rfl .i64 _ _ (F.e rfl) (F.e rfl) _ (b_lss (decide_eq_false (by omega)))) ?_; clear F a; intro a F
 refine wpList_nil ?_
 replace F : Fr 109 a [(0, .agg #[.slice A ((live f0).length + 1) c, .int .u64 next]), (1, .slice B (f0.length + 1) d), (2, .pointer (some ⟨g2, 0, none⟩)), (4, .bool false), (5, .int .i64 nn), (6, .int .i64 i), (25, .bool false), (29, .bool false)] := F.keep ⟨rfl, rfl, rfl, rfl, rfl, rfl, rfl, rfl, trivial⟩
 refine then_n ?_
 refine wp_cond_false (F.e rfl) ?_
 refine wp_exit ?_
 refine then_x ?_
 refine then_x ?_
 refine in_hit ?_
 refine then_n ?_
 refine wp_seq ?_
 refine wp_region_lit ?_
 refine list_val F (wn rfl) rfl rfl (.agg #[.slice A ((live f0).length + 1) c, .int .u64 next]) (ex_load _ _ rfl _ (F.e rfl) _ (lvr (cs := [.slice A ((live f0).length + 1) c, .int .u64 next]) cv_row_69_2 (M.at (i := 0) rfl))) ?_; clear F a; intro a F
 refine list_do (wn rfl) (fun K hK => ?_)
 refine ow_call rfl rfl F 29 #[.agg #[.slice A ((live f0).length + 1) c, .int .u64 next]] (ex_call 29 _ _ rfl rfl cv_ent_29 _ (map1 (F.e rfl))) (cur_r h.ring _ _ _ O_r) (fun e u hR => ?_)
 obtain ⟨he, hb⟩ := hR
 refine ⟨.tuple #[.agg fl.key.arr, .bool true], he, ?_⟩; clear he F a; intro a F
 refine hK _ _ ?_
 clear hK K
 replace O_r := O_r.below hb
 replace M := M.below hb; clear hb; try clear v
 refine list_val F (wn rfl) rfl rfl (.tuple #[.agg fl.key.arr, .bool true]) (ex_move _ rfl _ (F.e rfl)) ?_; clear F a; intro a F
 refine list_val F (wn rfl) rfl rfl (.agg fl.key.arr) (ex_extract _ _ rfl _ (F.e rfl) _ rfl) ?_; clear F a; intro a F
 refine list_val F (wn rfl) rfl rfl (.bool true) (ex_extract _ _ rfl _ (F.e rfl) _ rfl) ?_; clear F a; intro a F
 refine list_do (wn rfl) (fun K hK => ?_)
 refine ow_alloc F M rfl rfl 107 rfl (.agg zKey.arr) zero107 zKey.arr rfl ?_
 clear F M a; intro a g9 v F M hb hg
 refine hK _ _ ?_
 clear hK K
 have K_O_r := O_r
 replace O_r := O_r.below hb
 have hz_g9 := hb; have lo_g9 := hg
 clear hb hg; try clear u
 refine list_do (wn rfl) (fun K hK => ?_)
 refine ow_put F M rfl 107 _ _ rfl 0 _ zKey.arr _ rfl (F.e rfl) fl.key.arr (F.e rfl) (by rw [Key.arr_size]; exact info107) (by simp only [Key.arr_size]) (Key.arr_one _) ?_
 clear F a; have Mo := M; clear M; intro a u F M hgr
 refine hK _ _ ?_
 clear hK K
 have hzz := S_grown hz_g9 hgr lo_g9
 replace O_r := K_O_r.below hzz
 clear hzz hz_g9 lo_g9 K_O_r
 clear Mo hgr; try clear v
 replace M : Mm w u [⟨g9, fl.key.arr, 107⟩, ⟨g2, #[.slice A ((live f0).length + 1) c, .int .u64 next], 69⟩] := M
 refine list_val F (wn rfl) rfl rfl (.bool true) (ex_assign _ rfl _ (F.e rfl)) ?_; clear F a; intro a F
 refine wpList_nil ?_
 replace F : Fr 109 a [(0, .agg #[.slice A ((live f0).length + 1) c, .int .u64 next]), (1, .slice B (f0.length + 1) d), (2, .pointer (some ⟨g2, 0, none⟩)), (4, .bool false), (5, .int .i64 nn), (6, .int .i64 i), (9, .pointer (some ⟨g9, 0, none⟩)), (10, .bool true), (25, .bool false), (29, .bool false)] := F.keep ⟨rfl, rfl, rfl, rfl, rfl, rfl, rfl, rfl, rfl, rfl, trivial⟩
 refine then_n ?_
 refine wp_seq ?_
 refine wp_region_lit ?_
 refine list_val F (wn rfl) rfl rfl (.agg #[.slice A ((live f0).length + 1) c, .int .u64 next]) (ex_load _ _ rfl _ (F.e rfl) _ (lvr (cs := [.slice A ((live f0).length + 1) c, .int .u64 next]) cv_row_69_2 (M.at (i := 1) rfl))) ?_; clear F a; intro a F
 refine list_val F (wn rfl) rfl rfl (.slice B (f0.length + 1) d) (ex_move _ rfl _ (F.e rfl)) ?_; clear F a; intro a F
 refine list_val F (wn rfl) rfl rfl (.int .i64 (((f0.length + 1) : Nat) : Int)) (ex_len _ _ rfl 35 cv_sl_97_35 _ _ _ (F.e rfl)) ?_; clear F a; intro a F
 refine list_val F (wn rfl) rfl rfl (.int .i64 ((f0.length : Int) + 2)) (ex_bin .add _ _ _ _ rfl .i64 _ _ (F.e rfl) rfl _ (b_add ((w_i64 (by omega) (by omega)).trans (by omega)))) ?_; clear F a; intro a F
 refine list_val F (wn rfl) rfl rfl (.int .u64 ((f0.length : Int) + 2)) (ex_conv _ _ _ rfl _ .u64 cv_cv_3_67_u64 _ (F.e rfl) _ (w_u64 (by omega) (by omega))) ?_; clear F a; intro a F
 refine list_do (wn rfl) (fun K hK => ?_)
 refine ow_call rfl rfl F 30 #[.agg #[.slice A ((live f0).length + 1) c, .int .u64 next], .int .u64 ((f0.length : Int) + 2)] (ex_call 30 _ _ rfl rfl cv_ent_30 _ (map2 (F.e rfl) (F.e rfl))) (find_n _ _ _ O_r (h.find_other (.inr (by omega)))) (fun e v hR => ?_)
 obtain ⟨he, hb⟩ := hR
 refine ⟨.tuple #[.agg zKey.arr, .bool false], he, ?_⟩; clear he F a; intro a F
 refine hK _ _ ?_
 clear hK K
 replace O_r := O_r.below hb
 replace M := M.below hb; clear hb; try clear u
 refine list_val F (wn rfl) rfl rfl (.tuple #[.agg zKey.arr, .bool false]) (ex_move _ rfl _ (F.e rfl)) ?_; clear F a; intro a F
 refine list_val F (wn rfl) rfl rfl (.agg zKey.arr) (ex_extract _ _ rfl _ (F.e rfl) _ rfl) ?_; clear F a; intro a F
 refine list_val F (wn rfl) rfl rfl (.bool false) (ex_extract _ _ rfl _ (F.e rfl) _ rfl) ?_; clear F a; intro a F
 refine list_do (wn rfl) (fun K hK => ?_)
 refine ow_alloc F M rfl rfl 107 rfl (.agg zKey.arr) zero107 zKey.arr rfl ?_
 clear F M a; intro a g11 u F M hb hg
 refine hK _ _ ?_
 clear hK K
 have K_O_r := O_r
 replace O_r := O_r.below hb
 have hz_g11 := hb; have lo_g11 := hg
 clear hb hg; try clear v
 refine list_do (wn rfl) (fun K hK => ?_)
 refine ow_put F M rfl 107 _ _ rfl 0 _ zKey.arr _ rfl (F.e rfl) zKey.arr (F.e rfl) (by rw [Key.arr_size]; exact info107) (by simp only [Key.arr_size]) (Key.arr_one _) ?_
 clear F a; have Mo := M; clear M; intro a v F M hgr
 refine hK _ _ ?_
 clear hK K
 have hzz := S_grown hz_g11 hgr lo_g11
 replace O_r := K_O_r.below hzz
 clear hzz hz_g11 lo_g11 K_O_r
 clear Mo hgr; try clear u
 replace M : Mm w v [⟨g11, zKey.arr, 107⟩, ⟨g9, fl.key.arr, 107⟩, ⟨g2, #[.slice A ((live f0).length + 1) c, .int .u64 next], 69⟩] := M
 refine list_val F (wn rfl) rfl rfl (.bool false) (ex_assign _ rfl _ (F.e rfl)) ?_; clear F a; intro a F
 refine wpList_nil ?_
 replace F : Fr 109 a [(0, .agg #[.slice A ((live f0).length + 1) c, .int .u64 next]), (1, .slice B (f0.length + 1) d), (2, .pointer (some ⟨g2, 0, none⟩)), (4, .bool false), (5, .int .i64 nn), (6, .int .i64 i), (9, .pointer (some ⟨g9, 0, none⟩)), (10, .bool true), (12, .bool false), (25, .bool false), (29, .bool false)] := F.keep ⟨rfl, rfl, rfl, rfl, rfl, rfl, rfl, rfl, rfl, rfl, rfl, trivial⟩
 refine then_n ?_
 refine wp_seq ?_
 refine wp_region_lit ?_
 refine list_val F (wn rfl) rfl rfl (.bool true) (ex_move _ rfl _ (F.e rfl)) ?_; clear F a; intro a F
 refine list_val F (wn rfl) rfl rfl (.bool true) (ex_move _ rfl _ (F.e rfl)) ?_; clear F a; intro a F
 refine list_val F (F.wants 90 true rfl (by kernel_rfl) rfl true rfl) rfl rfl (.pointer (some ⟨g9, 0, none⟩)) (ex_fa _ _ _ rfl _ (F.e rfl) 0 cv_fa_107_0_0 ⟨g9, 0, none⟩ rfl) ?_; clear F a; intro a F
 refine list_val F (F.wants 90 true rfl (by kernel_rfl) rfl true rfl) rfl rfl (.int .u64 fl.key.kid) (ex_load _ _ rfl _ (F.e rfl) _ (lv1 cv_one_67 (M.cell (i := 1) rfl (j := 0) (Key.arr_0 _)))) ?_; clear F a; intro a F
 refine list_val F (F.wants 90 true rfl (by kernel_rfl) rfl true rfl) rfl rfl (.slice B (f0.length + 1) d) (ex_move _ rfl _ (F.e rfl)) ?_; clear F a; intro a F
 refine list_val F (F.wants 90 true rfl (by kernel_rfl) rfl true rfl) rfl rfl (.int .i64 (((f0.length + 1) : Nat) : Int)) (ex_len _ _ rfl 35 cv_sl_97_35 _ _ _ (F.e rfl)) ?_; clear F a; intro a F
 refine list_val F (F.wants 90 true rfl (by kernel_rfl) rfl true rfl) rfl rfl (.int .u64 (((f0.length + 1) : Nat) : Int)) (ex_conv _ _ _ rfl _ .u64 cv_cv_3_67_u64 _ (F.e rfl) _ (w_u64 (by omega) (by omega))) ?_; clear F a; intro a F
 refine list_val F (F.wants 90 true rfl (by kernel_rfl) rfl true rfl) rfl rfl (.bool true) (ex_bin .eql _ _ _ _ rfl .u64 _ _ (F.e rfl) (F.e rfl) _ (b_eql (by have := h.kids f0.length fl (by simp); show (fl.kid == _) = true; rw [this]; simp))) ?_; clear F a; intro a F
 refine list_val F (wn rfl) rfl rfl (.bool true) (ex_pick_t _ _ _ rfl (F.e rfl) _ (F.e rfl)) ?_; clear F a; intro a F
 refine list_val F (wn rfl) rfl rfl (.bool true) (ex_move _ rfl _ (F.e rfl)) ?_; clear F a; intro a F
 refine list_val F (F.wants 98 true rfl (by kernel_rfl) rfl true rfl) rfl rfl (.bool false) (ex_move _ rfl _ (F.e rfl)) ?_; clear F a; intro a F
 refine list_val F (F.wants 98 true rfl (by kernel_rfl) rfl true rfl) rfl rfl (.bool true) (ex_not _ _ rfl _ (F.e rfl) _ rfl) ?_; clear F a; intro a F
 refine list_val F (wn rfl) rfl rfl (.bool true) (ex_pick_t _ _ _ rfl (F.e rfl) _ (F.e rfl)) ?_; clear F a; intro a F
 refine list_val F (wn rfl) rfl rfl (.bool true) (ex_move _ rfl _ (F.e rfl)) ?_; clear F a; intro a F
 refine list_val F (F.wants 102 true rfl (by kernel_rfl) rfl true rfl) rfl rfl (.int .i64 nn) (ex_move _ rfl _ (F.e rfl)) ?_; clear F a; intro a F
 refine list_val F (F.wants 102 true rfl (by kernel_rfl) rfl true rfl) rfl rfl (.pointer (some ⟨g2, 0, none⟩)) (ex_fa _ _ _ rfl _ (F.e rfl) 0 cv_fa_69_0_0 ⟨g2, 0, none⟩ rfl) ?_; clear F a; intro a F
 refine list_val F (F.wants 102 true rfl (by kernel_rfl) rfl true rfl) rfl rfl (.slice A ((live f0).length + 1) c) (ex_load _ _ rfl _ (F.e rfl) _ (lv1 cv_one_55 (M.cell (i := 2) rfl (j := 0) rfl))) ?_; clear F a; intro a F
 refine list_val F (F.wants 102 true rfl (by kernel_rfl) rfl true rfl) rfl rfl (.int .i64 ((((live f0).length + 1) : Nat) : Int)) (ex_len _ _ rfl 34 cv_sl_55_34 _ _ _ (F.e rfl)) ?_; clear F a; intro a F
 refine list_val F (F.wants 102 true rfl (by kernel_rfl) rfl true rfl) rfl rfl (.bool true) (ex_bin .eql _ _ _ _ rfl .i64 _ _ (F.e rfl) (F.e rfl) _ (b_eql (by rw [hne]; simp))) ?_; clear F a; intro a F
 refine list_val F (wn rfl) rfl rfl (.bool true) (ex_pick_t _ _ _ rfl (F.e rfl) _ (F.e rfl)) ?_; clear F a; intro a F
 refine list_val F (wn rfl) rfl rfl (.bool true) (ex_assign _ rfl _ (F.e rfl)) ?_; clear F a; intro a F
 refine wpList_nil ?_
 replace F : Fr 109 a [(0, .agg #[.slice A ((live f0).length + 1) c, .int .u64 next]), (1, .slice B (f0.length + 1) d), (2, .pointer (some ⟨g2, 0, none⟩)), (4, .bool true), (5, .int .i64 nn), (6, .int .i64 i), (9, .pointer (some ⟨g9, 0, none⟩)), (10, .bool true), (12, .bool false), (25, .bool false), (29, .bool false)] := F.keep ⟨rfl, rfl, rfl, rfl, rfl, rfl, rfl, rfl, rfl, rfl, rfl, trivial⟩
 refine then_n ?_
 refine wp_ret ?_
 exact ret_tmp F rfl rfl ⟨rfl, M.bel⟩
end Go.Proofs.Ytnechcibpmjblaa
