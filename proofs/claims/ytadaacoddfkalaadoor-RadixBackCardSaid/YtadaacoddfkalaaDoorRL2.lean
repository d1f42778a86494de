/- What the rows of the radix laws read as: bytes, texts, numbers, widths. No conditions but those of each lemma. -/
import Derived.Test.YtadaacoddfkalaaDoorRL
import Derived.Test.YtadaacoddfkalaaDoorG5
namespace Go.Proofs.YtadaacoddfkalaaDoor
open Go.RowKit Go.Proofs.YtadaacoddfkalaaDoorW.PrintWords KB WG RD
set_option linter.unusedVariables false
set_option linter.unnecessarySimpa false
theorem rd5 (W : World) : Reads Tryd.prog W 5 ST.kB (fun _ => True) :=
  reads_conv (RD.reads_int (k := .u8) (by kernel_rfl)) (fun z cs hk hw => ⟨UInt8.ofNat z.toNat, by
    obtain ⟨h1, h2⟩ := wf_u8 hw
    show cs = ST.bc _
    have hk : cs = [Value.int .u8 z] := hk
    rw [hk]
    unfold ST.bc
    rw [o8 _ (by omega)]
    congr 2
    omega, trivial⟩)
abbrev kL : Kd (List UInt8) := Kd.slice 5 ST.kB
def wL (l : List UInt8) : Prop := l.length * 1 ≤ 140737488351232 ∧ ∀ x ∈ l, True
theorem rd28 (W : World) : Reads Tryd.prog W 28 kL wL := RD.reads_slice (B := 1) Tryd.underlying28 (rd5 W) (by kernel_rfl) (by kernel_rfl)
def w22 (l : List (List UInt8)) : Prop := l.length * 24 ≤ 140737488351232 ∧ ∀ x ∈ l, wL x
theorem rd22 (W : World) : Reads Tryd.prog W 22 (Kd.slice 28 kL) w22 := RD.reads_slice (B := 24) Tryd.underlying22 (rd28 W) (by kernel_rfl) (by kernel_rfl)
def w24 (l : List Int) : Prop := l.length * 8 ≤ 140737488351232 ∧ ∀ x ∈ l, (Lit.int .i64 x).wf = true
theorem rd24 (W : World) : Reads Tryd.prog W 24 (Kd.slice 2 (Kd.int .i64)) w24 := RD.reads_slice (B := 8) Tryd.underlying24 (RD.reads_int (k := .i64) (by kernel_rfl)) (by kernel_rfl) (by kernel_rfl)
def w33 (x : Wd) : Prop := x.n < 18446744073709551616 ∧ (Lit.int .i64 x.wd).wf = true
theorem rd33 (W : World) : Reads Tryd.prog W 33 kWd w33 :=
  reads_conv (RD.reads_struct Tryd.underlying33 (show RD.ReadsF _ _ [_, _] 0 _ _ from (RD.readsF_cons (RD.reads_int (k := .u64) (by kernel_rfl)) rfl (by kernel_rfl) (RD.readsF_one (RD.reads_int (k := .i64) (by kernel_rfl)) rfl (by kernel_rfl)))) (by kernel_rfl) id id (fun _ => rfl))
    (fun x cs hk hw => by
      obtain ⟨n, d⟩ := x
      obtain ⟨c1, r1, rfl, rfl, rfl⟩ := hk
      obtain ⟨h1, h2⟩ := hw
      have h1 : (Lit.int .u64 n).wf = true := h1
      obtain ⟨h3, h4⟩ := wf_u64 h1
      refine ⟨⟨n.toNat, d⟩, ?_, ?_, h2⟩
      · show [Value.int .u64 n] ++ [Value.int .i64 d] = [.int .u64 ((n.toNat : Nat) : Int), .int .i64 d]
        rw [show ((n.toNat : Nat) : Int) = n by omega]
        rfl
      · show n.toNat < _
        omega)
def w25 (l : List Wd) : Prop := l.length * 16 ≤ 140737488351232 ∧ ∀ x ∈ l, w33 x
theorem rd25 (W : World) : Reads Tryd.prog W 25 (Kd.slice 33 kWd) w25 := RD.reads_slice (B := 16) Tryd.underlying25 (rd33 W) (by kernel_rfl) (by kernel_rfl)
abbrev RadT : Type := List (List UInt8) × List (List UInt8) × List Int × List Wd
abbrev kRad : Kd RadT := Kd.iso (Kd.pair (Kd.slice 28 kL) (Kd.pair (Kd.slice 9 kT) (Kd.pair (Kd.slice 2 (Kd.int .i64)) (Kd.slice 33 kWd)))) id
def w27 (x : RadT) : Prop := w22 x.1 ∧ w23 x.2.1 ∧ w24 x.2.2.1 ∧ w25 x.2.2.2
theorem rd27 (W : World) : Reads Tryd.prog W 27 kRad w27 :=
  RD.reads_struct Tryd.underlying27 (show RD.ReadsF _ _ [_, _, _, _] 0 _ _ from (RD.readsF_cons (rd22 _) rfl (by kernel_rfl) (RD.readsF_cons (rd23 _) rfl (by kernel_rfl) (RD.readsF_cons (rd24 _) rfl (by kernel_rfl) (RD.readsF_one (rd25 _) rfl (by kernel_rfl)))))) (by kernel_rfl) id id (fun _ => rfl)
theorem rows_of {w : World} {A : Option Addr} {n : Nat} {ls : List (List UInt8)} (h : kL.C w A n ls) : Rows2 w A ls := by
  obtain ⟨h1, h2, h3⟩ := h
  intro i b hb
  have hi := (List.getElem?_eq_some_iff.1 hb).1
  obtain ⟨ad, e, hA⟩ := h3 (by omega)
  obtain ⟨c, hl, hk, hr⟩ := hA i _ hb
  obtain ⟨B, m, rfl, hm, hC⟩ := hk
  refine ⟨ad, B, m, e, fun j u hu => ?_, hC, hm⟩
  have := hr j u hu
  rw [← Addr.add_add] at this
  exact this
theorem rad_of {W : World} {x : RadT} {cs : List Value} (h : kRad.K W x cs) : ∃ A c A2 c2 A3 c3 D d, cs = [.slice A x.1.length c, .slice A2 x.2.1.length c2, .slice A3 x.2.2.1.length c3, .slice D x.2.2.2.length d] ∧ Rows2 W A x.1 ∧ (Kd.int .i64).C W A3 x.2.2.1.length x.2.2.1 ∧ kWd.C W D x.2.2.2.length x.2.2.2 := by
  obtain ⟨b, s, n, l⟩ := x
  obtain ⟨c1, r1, rfl, ⟨A, c, rfl, _, hC⟩, c2, r2, rfl, ⟨A2, c2, rfl, _, _⟩, c3, r3, rfl, ⟨A3, c3, rfl, _, hN⟩, D, d, rfl, _, hW⟩ := h
  exact ⟨A, c, A2, c2, A3, c3, D, d, rfl, rows_of hC, hN, hW⟩
theorem bytes_le {x : List (List UInt8)} (h : w22 x) : ∀ b ∈ x, b.length ≤ 140737488351232 := fun b hb => by
  have := (h.2 b hb).1
  omega
end Go.Proofs.YtadaacoddfkalaaDoor
