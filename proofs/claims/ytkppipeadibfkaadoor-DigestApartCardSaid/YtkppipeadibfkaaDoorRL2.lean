/- What a row of salts, passwords and rounds reads as. No conditions but those of each lemma. -/
import Derived.Test.YtkppipeadibfkaaDoorRL
import Derived.Test.YtkppipeadibfkaaDoorLW
namespace Go.Proofs.YtkppipeadibfkaaDoor
open Go.RowKit Go.Proofs.YtkppipeadibfkaaDoorW.PrintWords KB WG RD
set_option linter.unusedVariables false
set_option linter.unnecessarySimpa false
def byOf (x : Int) : By := BitVec.ofInt 8 x
theorem rd40 (W : World) : Reads Tryd.prog W 40 (kBs 16) (fun x => ∀ b ∈ x.1, (Lit.int .u8 b).wf = true) := reads_bytes Tryd.underlying40 un5 (by kernel_rfl) (by kernel_rfl)
theorem bs_bcs {x : Bs 16} (h : ∀ b ∈ x.1, (Lit.int .u8 b).wf = true) : x.cs = bcs (x.1.map byOf) := by
  unfold Bs.cs bcs
  rw [List.map_map]
  refine List.map_congr_left fun b hb => ?_
  obtain ⟨h1, h2⟩ := wf_u8 (h b hb)
  show Value.int .u8 b = bv (byOf b)
  refine congrArg (fun z => Value.int .u8 z) ?_
  unfold byOf
  rw [BitVec.toNat_ofInt]
  omega
def txt (s : ByteArray) : List By := s.data.toList.map (·.toBitVec)
theorem txt_str (s : ByteArray) : strB (txt s) = s := by
  unfold strB txt
  rw [List.map_map]
  have : (UInt8.ofBitVec ∘ UInt8.toBitVec) = id := by funext x; rfl
  rw [this, List.map_id, Array.toArray_toList]
theorem txt_len (s : ByteArray) : (txt s).length = s.size := by unfold txt; rw [List.length_map, Array.length_toList]; rfl
theorem rd42 (W : World) : Reads Tryd.prog W 42 kWd wWd :=
  reads_conv (RD.reads_struct Tryd.underlying42 (show RD.ReadsF _ _ [_, _, _] 0 _ _ from (RD.readsF_cons (rd40 _) rfl (by kernel_rfl) (RD.readsF_cons (RD.reads_string (by kernel_rfl)) rfl (by kernel_rfl) (RD.readsF_one (RD.reads_int (k := .i64) (by kernel_rfl)) rfl (by kernel_rfl))))) (by kernel_rfl) id id (fun _ => rfl))
    (fun x cs hk hw => by
      obtain ⟨a, s, r⟩ := x
      obtain ⟨c1, r1, rfl, rfl, c2, c3, rfl, rfl, rfl⟩ := hk
      obtain ⟨h1, h2, h3⟩ := hw
      have h1 : ∀ b ∈ a.1, (Lit.int .u8 b).wf = true := h1
      have h2 : s.size ≤ 140737488351232 := h2
      have h3 : (Lit.int .i64 r).wf = true := h3
      refine ⟨⟨a.1.map byOf, txt s, r, by rw [List.length_map]; exact a.2⟩, ?_, by rw [txt_len]; exact h2, wf_i64 h3⟩
      show _ = wdCs _ _ _
      show a.cs ++ ([Value.string s] ++ [Value.int .i64 r]) = bcs (a.1.map byOf) ++ [.string (strB (txt s)), .int .i64 r]
      rw [bs_bcs h1, txt_str]
      rfl)
def wWds (l : List WordT) : Prop := l.length * 40 ≤ 140737488351232 ∧ ∀ x ∈ l, wWd x
theorem rd38 (W : World) : Reads Tryd.prog W 38 (Kd.slice 42 kWd) wWds := reads_slice (B := 40) Tryd.underlying38 (rd42 W) (by kernel_rfl) (by kernel_rfl)
end Go.Proofs.YtkppipeadibfkaaDoor
