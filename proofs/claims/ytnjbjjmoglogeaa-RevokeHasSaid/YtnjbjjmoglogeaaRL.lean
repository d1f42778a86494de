/- What a script of steps reads as. No conditions but those of each lemma. -/
import Derived.Test.YtnjbjjmoglogeaaRD
import Derived.Test.YtnjbjjmoglogeaaR0
namespace Go.Proofs.Ytnjbjjmoglogeaa
open Go.RowKit Go.Proofs.YtnjbjjmoglogeaaW.PrintWords KB WG RD
set_option linter.unusedVariables false
set_option linter.unnecessarySimpa false
theorem reads_conv {P : Program} {w : World} {t : TypeId} {α β : Type} {kd : Kd α} {kd' : Kd β} {wf : α → Prop} {wf' : β → Prop} (h : Reads P w t kd wf) (hc : ∀ x cs, kd.K w x cs → wf x → ∃ y, kd'.K w y cs ∧ wf' y) : Reads P w t kd' wf' :=
  fun H enc fuel cs d ps hd hz => let ⟨x, h1, h2⟩ := h H enc fuel cs d ps hd hz; hc x cs h1 h2
def byOf (x : Int) : BitVec 8 := BitVec.ofInt 8 x
def bsOf (x : KB.Bs 16) : Bs 16 := ⟨x.1.map byOf, by rw [List.length_map]; exact x.2⟩
theorem bsOf_cs {x : KB.Bs 16} (h : ∀ b ∈ x.1, (Lit.int .u8 b).wf = true) : (bsOf x).cs = x.cs := by
  show (((x.1.map byOf).map (fun b : BitVec 8 => (b.toNat : Int))).map (Value.int .u8)) = x.1.map (Value.int .u8)
  congr 1
  rw [List.map_map]
  conv => rhs; rw [← List.map_id x.1]
  refine List.map_congr_left fun b hb => ?_
  obtain ⟨h1, h2⟩ := wf_u8 (h b hb)
  show ((byOf b).toNat : Int) = b
  unfold byOf
  rw [BitVec.toNat_ofInt]
  omega
theorem rd27 (W : World) : Reads Try.prog W 27 (kBs 16) (fun x => ∀ b ∈ x.1, (Lit.int .u8 b).wf = true) := reads_bytes un27 un5 (by kernel_rfl) (by kernel_rfl)
def w48 (x : Rv) : Prop := (Lit.int .u64 x.grant).wf = true ∧ (Lit.int .i64 x.exp).wf = true
theorem rd48 (W : World) : Reads Try.prog W 48 kRv w48 :=
  reads_conv (RD.reads_struct Try.underlying48 (show RD.ReadsF _ _ [_, _, _, _] 0 _ _ from (RD.readsF_cons (RD.reads_bool (by kernel_rfl)) rfl (by kernel_rfl) (RD.readsF_cons (RD.reads_int (k := .u64) (by kernel_rfl)) rfl (by kernel_rfl) (RD.readsF_cons (rd27 _) rfl (by kernel_rfl) (RD.readsF_one (RD.reads_int (k := .i64) (by kernel_rfl)) rfl (by kernel_rfl)))))) (by kernel_rfl) id id (fun _ => rfl))
    (fun x cs hk hw => by
      obtain ⟨b, g, i, e⟩ := x
      obtain ⟨c1, r1, rfl, rfl, c2, r2, rfl, rfl, c3, c4, rfl, rfl, rfl⟩ := hk
      obtain ⟨_, h2, h3, h4⟩ := hw
      refine ⟨⟨b, g, bsOf i, e⟩, ?_, h2, h4⟩
      show _ = Rv.cs _
      show [Value.bool b] ++ ([Value.int .u64 g] ++ (i.cs ++ [Value.int .i64 e])) = _
      rw [← bsOf_cs (x := i) h3]
      rfl)
def w23 (l : List Rv) : Prop := l.length * 40 ≤ 140737488351232 ∧ ∀ x ∈ l, w48 x
theorem rd23 (W : World) : Reads Try.prog W 23 (Kd.slice 48 kRv) w23 := RD.reads_slice (B := 40) Try.underlying23 (rd48 W) (by kernel_rfl) (by kernel_rfl)
/-- A step, with its raw list's slice. -/
def w29 (x : St) : Prop := (Lit.int .i64 x.do_).wf = true ∧ (Lit.int .u64 x.grant).wf = true ∧ (Lit.int .i64 x.exp).wf = true
theorem rd29 (W : World) : Reads Try.prog W 29 kSt w29 :=
  reads_conv (RD.reads_struct Try.underlying29 (show RD.ReadsF _ _ [_, _, _, _, _] 0 _ _ from (RD.readsF_cons (RD.reads_int (k := .i64) (by kernel_rfl)) rfl (by kernel_rfl) (RD.readsF_cons (RD.reads_int (k := .u64) (by kernel_rfl)) rfl (by kernel_rfl) (RD.readsF_cons (rd27 _) rfl (by kernel_rfl) (RD.readsF_cons (RD.reads_int (k := .i64) (by kernel_rfl)) rfl (by kernel_rfl) (RD.readsF_one (rd23 _) rfl (by kernel_rfl))))))) (by kernel_rfl) id id (fun _ => rfl))
    (fun x cs hk hw => by
      obtain ⟨d, g, i, e, l⟩ := x
      obtain ⟨c1, r1, rfl, rfl, c2, r2, rfl, rfl, c3, r3, rfl, rfl, c4, c5, rfl, rfl, ⟨A, c, rfl, hl, hC⟩⟩ := hk
      obtain ⟨h1, h2, h3, h4, h5⟩ := hw
      refine ⟨⟨d, g, bsOf i, e, (A, l.length, c)⟩, ?_, h1, h2, h4⟩
      show _ = St.cs _
      show [Value.int .i64 d] ++ ([Value.int .u64 g] ++ (i.cs ++ ([Value.int .i64 e] ++ [Value.slice A l.length c]))) = _
      rw [← bsOf_cs (x := i) h3]
      rfl)
def w22 (l : List St) : Prop := l.length * 64 ≤ 140737488351232 ∧ ∀ x ∈ l, w29 x
theorem rd22 (W : World) : Reads Try.prog W 22 (Kd.slice 29 kSt) w22 := RD.reads_slice (B := 64) Try.underlying22 (rd29 W) (by kernel_rfl) (by kernel_rfl)
end Go.Proofs.Ytnjbjjmoglogeaa
