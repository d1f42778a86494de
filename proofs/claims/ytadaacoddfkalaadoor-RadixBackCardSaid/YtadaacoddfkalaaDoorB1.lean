/- RadixBack in plain Lean: what is written is read back; lengths, letters, beginnings; decimals; whole numbers of 1 to 8 bytes. No program in sight but for strings' cuts. No conditions but those of each lemma. -/
import Derived.Test.YtadaacoddfkalaaDoorG5
namespace Go.Proofs.YtadaacoddfkalaaDoor
open Go.RowKit Go.Proofs.YtadaacoddfkalaaDoorW.PrintWords KB WG RO
set_option linter.unusedVariables false
set_option linter.unusedSimpArgs false
set_option linter.unnecessarySimpa false
section
variable {P : Program} {op : Oper} {ρ : Operand → Value} {w : World}
/-- The beginning of a text. -/
theorem ex_cuts (t : TypeId) (hu : P.underlying t = some .string) (x y : Operand) (ho : op.op = .slice t x none (some y) none) (l : List UInt8) (hx : ρ x = .string (ST.str l)) (j : Int) (hy : ρ y = .int .i64 j) (k : Nat) (hk : j = (k : Int)) (hc : k ≤ l.length) :
    (execOp ρ op).run P w = .ok (.value (.string (ST.str (l.take k)))) w := by
  subst hk
  have hr : (Instr.slice t (.string (ST.str l)) none (some (.int .i64 (k : Int))) none).run P w = .ok (.string (ST.str (l.take k))) w := by
    rw [run_slice_string_h w t (ST.str l) hu .i64 (k : Int) (by omega) (by rw [ST.str_size]; omega)]
    congr 2
    show (ST.str l).extract 0 k = _
    apply ByteArray.ext
    simp [ST.str, ByteArray.data_extract]
  unfold execOp
  simp only [ho, hx, hy, Option.map_some, Option.map_none, Sem.run_bind, run_sliceAt_string _ _ _ _ _ _ hu, hr, Result.andThen_ok, Sem.run_pure]
end
/-! ### Base 64: the numbers of the letters -/
def sx : List UInt8 → List Nat
  | [] => []
  | [a] => (List.range 2).map (six (tri [a]))
  | [a, b] => (List.range 3).map (six (tri [a, b]))
  | a :: b :: c :: r => (List.range 4).map (six (tri [a, b, c])) ++ sx r
theorem enc_sx (set : List UInt8) : ∀ l : List UInt8, enc set l = (sx l).map (L64 set)
  | [] => rfl
  | [a] => rfl
  | [a, b] => rfl
  | a :: b :: c :: r => by
    show group set [a, b, c] ++ enc set r = _
    rw [enc_sx set r, sx, List.map_append]
    rfl
theorem sx_lt : ∀ (l : List UInt8), ∀ k ∈ sx l, k < 64
  | [] => fun k h => by simp [sx] at h
  | [a] => fun k h => by
    obtain ⟨j, _, rfl⟩ := List.mem_map.1 h
    exact Nat.mod_lt _ (by decide)
  | [a, b] => fun k h => by
    obtain ⟨j, _, rfl⟩ := List.mem_map.1 h
    exact Nat.mod_lt _ (by decide)
  | a :: b :: c :: r => fun k h => by
    rcases List.mem_append.1 h with h | h
    · obtain ⟨j, _, rfl⟩ := List.mem_map.1 h
      exact Nat.mod_lt _ (by decide)
    · exact sx_lt r k h
theorem url_in (k : Nat) (h : k < 64) : sUrl.contains (L64 sUrl k) = true := by
  have h2 : ∀ k : Fin 64, sUrl.contains (L64 sUrl k.val) = true := by decide +kernel
  exact h2 ⟨k, h⟩
theorem plain_in (k : Nat) (h : k < 64) : L64 sPlain k ≠ 61 := by
  have h2 : ∀ k : Fin 64, L64 sPlain k.val ≠ 61 := by decide +kernel
  exact h2 ⟨k, h⟩
def swap (c : UInt8) : UInt8 := if c = 45 then 43 else if c = 95 then 47 else c
theorem swap_L (k : Nat) (h : k < 64) : L64 sPlain k = swap (L64 sUrl k) := by
  have h2 : ∀ k : Fin 64, L64 sPlain k.val = swap (L64 sUrl k.val) := by decide +kernel
  exact h2 ⟨k, h⟩
theorem enc_url (l : List UInt8) : ∀ x ∈ enc sUrl l, sUrl.contains x = true := fun x hx => by
  rw [enc_sx] at hx
  obtain ⟨k, hk, rfl⟩ := List.mem_map.1 hx
  exact url_in k (sx_lt l k hk)
theorem enc_plain (l : List UInt8) : ∀ x ∈ enc sPlain l, x ≠ 61 := fun x hx => by
  rw [enc_sx] at hx
  obtain ⟨k, hk, rfl⟩ := List.mem_map.1 hx
  exact plain_in k (sx_lt l k hk)
theorem enc_swap (l : List UInt8) : enc sPlain l = (enc sUrl l).map swap := by
  rw [enc_sx, enc_sx, List.map_map]
  exact List.map_congr_left fun k hk => swap_L k (sx_lt l k hk)
theorem hex_in (l : List UInt8) : ∀ x ∈ hex16 l, sHex.contains x = true := fun x hx => by
  have h2 : ∀ k : Fin 16, sHex.contains (hxL k.val) = true := by decide +kernel
  unfold hex16 at hx
  obtain ⟨b, _, hb⟩ := List.mem_flatMap.1 hx
  have hbl := UInt8.toNat_lt b
  simp only [List.mem_cons, List.not_mem_nil, or_false] at hb
  rcases hb with rfl | rfl
  · exact h2 ⟨b.toNat / 16, by omega⟩
  · exact h2 ⟨b.toNat % 16, by omega⟩
theorem encPad_len (l : List UInt8) : (encPad l).length = (l.length + 2) / 3 * 4 := by
  unfold encPad padN
  rw [List.length_append, rep61, List.length_replicate, enc_len]
  omega
/-- The letter at a place of the padded text. -/
theorem pad_url {l : List UInt8} {i : Nat} {c : UInt8} (h : (enc sUrl l)[i]? = some c) : (encPad l)[i]? = some (swap c) := by
  have hi := (List.getElem?_eq_some_iff.1 h).1
  unfold encPad
  rw [List.getElem?_append_left (by rw [enc_swap, List.length_map]; exact hi), enc_swap, List.getElem?_map, h]
  rfl
theorem pad_pad {l : List UInt8} {i : Nat} (h : ¬ i < (enc sUrl l).length) (h2 : i < (encPad l).length) : (encPad l)[i]? = some 61 := by
  have e : (enc sPlain l).length = (enc sUrl l).length := by rw [enc_len, enc_len]
  unfold encPad at h2 ⊢
  rw [List.length_append] at h2
  rw [List.getElem?_append_right (by omega)]
  unfold padN at h2 ⊢
  rw [rep61] at h2 ⊢
  rw [List.length_replicate] at h2
  rw [List.getElem?_replicate, if_pos (by omega)]
/-! ### There and back -/
theorem rd_back {set : List UInt8} (hn : set.Nodup) (hs : set.length = 64) (l : List UInt8) : rdR set (enc set l) true = (l, 0) := by
  obtain ⟨b, h⟩ := dec_enc hn hs l []
  exact rdR_ok h
theorem rd64_back (l : List UInt8) : rdR sUrl (enc sUrl l) (decide ((enc sUrl l).length % 4 ≠ 1)) = (l, 0) := by
  have h : (enc sUrl l).length % 4 ≠ 1 := by rw [enc_len]; omega
  rw [decide_eq_true h]
  exact rd_back url_nodup rfl l
theorem trimSuf_no {l : List UInt8} (h : ∀ x ∈ l, x ≠ 61) : Lib.trimSuffix l [61] = l := by
  rcases trimSuf l with ⟨m, e, h2⟩ | h2
  · exact absurd rfl (h 61 (by rw [e]; simp))
  · exact h2
theorem trimSuf_one (l : List UInt8) : Lib.trimSuffix (l ++ [61]) [61] = l := by
  unfold Lib.trimSuffix Lib.hasSuffix
  rw [if_pos (List.isSuffixOf_iff_suffix.2 ⟨l, rfl⟩)]
  simp
theorem trim2_enc {l : List UInt8} (h : ∀ x ∈ l, x ≠ 61) {j : Nat} (hj : j ≤ 2) : trim2 (l ++ List.replicate j 61) = l := by
  unfold trim2
  match j, hj with
  | 0, _ => rw [List.replicate_zero, List.append_nil, trimSuf_no h, trimSuf_no h]
  | 1, _ => rw [show List.replicate 1 (61 : UInt8) = [61] from rfl, trimSuf_one, trimSuf_no h]
  | 2, _ => rw [show List.replicate 2 (61 : UInt8) = [61] ++ [61] from rfl, ← List.append_assoc, trimSuf_one, trimSuf_one]
theorem rdPad_back (l : List UInt8) : rdR sPlain (trim2 (encPad l)) (decide ((encPad l).length % 4 = 0)) = (l, 0) := by
  have h : (encPad l).length % 4 = 0 := by rw [encPad_len]; omega
  rw [decide_eq_true h]
  have e : trim2 (encPad l) = enc sPlain l := by
    unfold encPad padN
    rw [rep61]
    refine trim2_enc (enc_plain l) ?_
    rw [enc_len]
    omega
  rw [e]
  exact rd_back plain_nodup rfl l
theorem hv_L {k : Nat} (h : k < 16) : hv (hxL k) = k := by
  have h2 : ∀ k : Fin 16, hv (hxL k.val) = k.val := by decide +kernel
  exact h2 ⟨k, h⟩
theorem un16_hex : ∀ (l : List UInt8), un16 (hex16 l) = l
  | [] => rfl
  | b :: l => by
    have hb := UInt8.toNat_lt b
    show UInt8.ofNat (hv (hxL (b.toNat / 16)) * 16 + hv (hxL (b.toNat % 16))) :: un16 (hex16 l) = _
    rw [hv_L (by omega), hv_L (by omega), un16_hex l, o8_eq (x := b) (by omega)]
theorem b16_back (l : List UInt8) : b16R (hex16 l) = (l, 0) := by
  have h1 : isHex (hex16 l) := hex_in l
  unfold b16R
  rw [if_neg (fun h => h h1), if_neg (by rw [hex16_len]; omega), un16_hex]
/-! ### Beginnings -/
theorem hex_inj {a b : List UInt8} (h : hex16 a = hex16 b) : a = b := by rw [← un16_hex a, h, un16_hex]
theorem hex_take (b : List UInt8) (k : Nat) : (hex16 b).take (2 * k) = hex16 (b.take k) := by
  conv => lhs; rw [← List.take_append_drop k b, hex16_app]
  by_cases h : k ≤ b.length
  · rw [List.take_append_of_le_length (by rw [hex16_len, List.length_take]; omega), List.take_of_length_le (by rw [hex16_len, List.length_take]; omega)]
  · rw [List.drop_of_length_le (by omega)]
    rw [show hex16 [] = [] from rfl, List.append_nil, List.take_of_length_le (by rw [hex16_len, List.length_take]; omega)]
theorem pre_hex (a b : List UInt8) : decide (hex16 a = (hex16 b).take (hex16 a).length) = decide (a = b.take a.length) := by
  rw [hex16_len, hex_take]
  exact decide_eq_decide.2 ⟨hex_inj, fun h => by rw [← h]⟩
/-! ### Decimals -/
theorem dec_len_le : ∀ (v u : Nat), u ≤ v → (Lib.decDigits u).length ≤ (Lib.decDigits v).length := by
  intro v
  induction v using Nat.strongRecOn with
  | _ v ih =>
    intro u h
    by_cases hv : v < 10
    · rw [dec_small hv, dec_small (by omega)]
      exact Nat.le_refl _
    · rw [dec_big hv]
      by_cases hu : u < 10
      · rw [dec_small hu]
        simp
      · rw [dec_big hu]
        have := ih (v / 10) (by omega) (u / 10) (by omega)
        simp only [List.length_append, List.length_cons, List.length_nil]
        omega
theorem dec_len : ∀ (k u : Nat), u < 10 ^ (k + 1) → (Lib.decDigits u).length ≤ k + 1
  | 0, u, h => by rw [dec_small (by simpa using h)]; simp
  | k + 1, u, h => by
    by_cases hu : u < 10
    · rw [dec_small hu]; simp
    · rw [dec_big hu]
      have := dec_len k (u / 10) (by rw [Nat.pow_succ] at h; omega)
      simp only [List.length_append, List.length_cons, List.length_nil]
      omega
theorem itoa_len {n : Int} (h0 : -9223372036854775808 ≤ n) (h1 : n ≤ 9223372036854775807) : (Lib.itoa n).length ≤ 21 := by
  unfold Lib.itoa
  split
  · have := dec_len 19 n.natAbs (by simp only [Nat.reduceAdd, Nat.reducePow]; omega)
    rw [List.length_cons]
    omega
  · have := dec_len 19 n.toNat (by simp only [Nat.reduceAdd, Nat.reducePow]; omega)
    omega
theorem itoa_mono {n m : Int} (h0 : 0 ≤ n) (h : n ≤ m) : (Lib.itoa n).length ≤ (Lib.itoa m).length := by
  unfold Lib.itoa
  rw [if_neg (by omega), if_neg (by omega)]
  exact dec_len_le _ _ (by omega)
/-- The first letter: a minus stands there just at the numbers below nothing. -/
theorem itoa_head (n : Int) : ∃ c, (Lib.itoa n)[0]? = some c ∧ (((c.toNat : Nat) : Int) == 45) = decide (n < 0) := by
  unfold Lib.itoa
  by_cases h : n < 0
  · rw [if_pos h]
    exact ⟨45, rfl, by rw [decide_eq_true h]; rfl⟩
  · rw [if_neg h]
    obtain ⟨hd, _, hne, _⟩ := dec_all n.toNat
    cases hq : Lib.decDigits n.toNat with
    | nil => exact absurd hq hne
    | cons c r =>
      have hc : 48 ≤ c.toNat ∧ c.toNat ≤ 57 := hd c (by rw [hq]; simp)
      refine ⟨c, rfl, ?_⟩
      rw [decide_eq_false h, beq_eq_false_iff_ne]
      omega
theorem itoa_ne (n : Int) : ¬ Lib.itoa n = [] := fun h => by
  obtain ⟨c, hc, _⟩ := itoa_head n
  rw [h] at hc
  cases hc
theorem n10_back {n : Int} (h0 : -9223372036854775808 ≤ n) (h1 : n ≤ 9223372036854775807) : n10R (Lib.itoa n) = (n, 0) := n10R_of (itoa_n10 h0 h1)
/-! ### Whole numbers -/
theorem rdN_app (l : List UInt8) (x : UInt8) : rdN (l ++ [x]) = rdN l * 256 + x.toNat := by
  unfold rdN
  rw [List.foldl_append]
  rfl
theorem rdN_be : ∀ (wd n : Nat), n < 256 ^ wd → rdN (be n wd) = n
  | 0, n, h => by simp at h; subst h; rfl
  | wd + 1, n, h => by
    rw [be_snoc, rdN_app, rdN_be wd (n / 256) (by rw [Nat.pow_succ] at h; omega), o8 _ (by omega)]
    omega
theorem lay_back {n wd : Nat} (h1 : 1 ≤ wd) (h8 : wd ≤ 8) (hn : n < 18446744073709551616) (h : (layR n wd).2 = 0) : readR (layR n wd).1 = (((n : Nat) : Int), 0) := by
  obtain ⟨e, hl⟩ := lay_fits h8 hn h
  unfold readR
  rw [e, be_len, if_neg (by omega), rdN_be wd n hl]
theorem lay_big {n wd : Nat} (h : wd < 8 ∧ n / 2 ^ (8 * wd) ≠ 0) : layR n wd = ([], 14) := if_pos h
theorem lay_ok {n wd : Nat} (h : ¬ (wd < 8 ∧ n / 2 ^ (8 * wd) ≠ 0)) : layR n wd = (be n wd, 0) := if_neg h
theorem lay_read {n wd : Nat} (h1 : 1 ≤ wd) (h8 : wd ≤ 8) (hn : n < 18446744073709551616) (h : ¬ (wd < 8 ∧ n / 2 ^ (8 * wd) ≠ 0)) : readR (be n wd) = (((n : Nat) : Int), 0) := by
  have := lay_back h1 h8 hn (by rw [lay_ok h])
  rw [lay_ok h] at this
  exact this
/-! ### Letters of a set -/
theorem has_more {set : List UInt8} {j : Nat} {x y : UInt8} (hy : set[j]? = some y) : (set.take (j + 1)).contains x = ((set.take j).contains x || (x == y)) := by
  rw [List.take_add_one, hy, Option.toList_some, Bool.eq_iff_iff]
  simp
theorem u8_ieq (x y : UInt8) : (((y.toNat : Nat) : Int) == ((x.toNat : Nat) : Int)) = (x == y) := by
  rw [Bool.eq_iff_iff]
  simp only [beq_iff_eq]
  constructor
  · intro h
    exact (UInt8.toNat_inj.1 (by omega)).symm
  · rintro rfl
    rfl
end Go.Proofs.YtadaacoddfkalaaDoor
