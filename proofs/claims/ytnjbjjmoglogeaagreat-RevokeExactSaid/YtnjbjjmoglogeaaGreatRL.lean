/- What a script of steps reads as. No conditions but those of each lemma. -/
import Derived.Test.YtnjbjjmoglogeaaGreatRD
import Derived.Test.YtnjbjjmoglogeaaGreatR0
namespace Go.Proofs.YtnjbjjmoglogeaaGreat
open Go.RowKit Go.Proofs.YtnjbjjmoglogeaaGreatW.PrintWords KB WG RD
set_option linter.unusedVariables false
set_option linter.unnecessarySimpa false
theorem reads_conv {P : Program} {w : World} {t : TypeId} {α β : Type} {kd : Kd α} {kd' : Kd β} {wf : α → Prop} {wf' : β → Prop} (h : Reads P w t kd wf) (hc : ∀ x cs, kd.K w x cs → wf x → ∃ y, kd'.K w y cs ∧ wf' y) : Reads P w t kd' wf' :=
  fun H enc fuel cs d ps hd hz => let ⟨x, h1, h2⟩ := h H enc fuel cs d ps hd hz; hc x cs h1 h2
def byOf (x : Int) : BitVec 8 := BitVec.ofInt 8 x
def bsOf (x : KB.Bs 16) : Bs 16 := ⟨x.1.map byOf, by rw [List.length_map]; exact x.2⟩
theorem bsOf_cs {x : KB.Bs 16} (h : ∀ b ∈ x.1, (Lit.int .u8 b).wf = true) : (bsOf x).cs = x.cs := by
  show (((x.1.map byOf).map (fun b : BitVec 8 => (b.toNat : Int))).map (Value.int .u8)) = x.1.map (Value.int .u8)
  congr 1
  rw [List.map_map]
  conv => rhs; rw [← List.map_id x.1]
  refine List.map_congr_left fun b hb => ?_
  obtain ⟨h1, h2⟩ := wf_u8 (h b hb)
  show ((byOf b).toNat : Int) = b
  unfold byOf
  rw [BitVec.toNat_ofInt]
  omega
theorem rd69 (W : World) : Reads Tryz.prog W 69 (kBs 16) (fun x => ∀ b ∈ x.1, (Lit.int .u8 b).wf = true) := reads_bytes un69 un5 (by kernel_rfl) (by kernel_rfl)
def w85 (x : Rv) : Prop := (Lit.int .u64 x.grant).wf = true ∧ (Lit.int .i64 x.exp).wf = true
theorem rd85 (W : World) : Reads Tryz.prog W 85 kRv w85 :=
  reads_conv (RD.reads_struct Tryz.underlying85 (show RD.ReadsF _ _ [_, _, _, _] 0 _ _ from (RD.readsF_cons (RD.reads_bool (by kernel_rfl)) rfl (by kernel_rfl) (RD.readsF_cons (RD.reads_int (k := .u64) (by kernel_rfl)) rfl (by kernel_rfl) (RD.readsF_cons (rd69 _) rfl (by kernel_rfl) (RD.readsF_one (RD.reads_int (k := .i64) (by kernel_rfl)) rfl (by kernel_rfl)))))) (by kernel_rfl) id id (fun _ => rfl))
    (fun x cs hk hw => by
      obtain ⟨b, g, i, e⟩ := x
      obtain ⟨c1, r1, rfl, rfl, c2, r2, rfl, rfl, c3, c4, rfl, rfl, rfl⟩ := hk
      obtain ⟨_, h2, h3, h4⟩ := hw
      refine ⟨⟨b, g, bsOf i, e⟩, ?_, h2, h4⟩
      show _ = Rv.cs _
      show [Value.bool b] ++ ([Value.int .u64 g] ++ (i.cs ++ [Value.int .i64 e])) = _
      rw [← bsOf_cs (x := i) h3]
      rfl)
def w57 (l : List Rv) : Prop := l.length * 40 ≤ 140737488351232 ∧ ∀ x ∈ l, w85 x
theorem rd57 (W : World) : Reads Tryz.prog W 57 (Kd.slice 85 kRv) w57 := RD.reads_slice (B := 40) Tryz.underlying57 (rd85 W) (by kernel_rfl) (by kernel_rfl)
/-- A step, with its raw list's slice. -/
def w71 (x : St) : Prop := (Lit.int .i64 x.do_).wf = true ∧ (Lit.int .u64 x.grant).wf = true ∧ (Lit.int .i64 x.exp).wf = true
def w22 (l : List St) : Prop := l.length * 64 ≤ 140737488351232 ∧ ∀ x ∈ l, w71 x
end Go.Proofs.YtnjbjjmoglogeaaGreat
