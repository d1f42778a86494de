/- SHA-256 of whole rows in plain Lean: what pieces come to. No program. -/
import Derived.Test.YtkppipeadibfkaaDoorC
namespace Go.Proofs.YtkppipeadibfkaaDoor
open Go.RowKit Go.Proofs.YtkppipeadibfkaaDoorW.PrintWords KB WG
set_option linter.unusedVariables false
set_option linter.unusedSimpArgs false
theorem feed_lt {h : List Wd} {b : List By} (hb : b.length < 64) : feed h b = (h, b) := by rw [feed, dif_neg (by omega)]
theorem feed_ge {h : List Wd} {b : List By} (hb : 64 ≤ b.length) : feed h b = feed (blk h (b.take 64)) (b.drop 64) := by rw [feed, dif_pos hb]
theorem feed_nil (h : List Wd) : feed h [] = (h, []) := feed_lt (by decide)
theorem feed_app (h : List Wd) (a b : List By) : feed h (a ++ b) = feed (feed h a).1 ((feed h a).2 ++ b) := by
  induction hn : a.length using Nat.strongRecOn generalizing h a with
  | _ n ih =>
    subst hn
    by_cases h64 : 64 ≤ a.length
    · rw [feed_ge (h := h) (b := a) h64, feed_ge (h := h) (b := a ++ b) (by rw [List.length_append]; omega), List.take_append_of_le_length h64, List.drop_append_of_le_length h64]
      exact ih _ (by rw [List.length_drop]; omega) _ _ rfl
    · rw [feed_lt (h := h) (b := a) (by omega)]
theorem feed_two (h : List Wd) (a b : List By) : feed (feed h a).1 ((feed h a).2 ++ b) = feed h (a ++ b) := (feed_app h a b).symm
theorem feed_rest (h : List Wd) (b : List By) : (feed h b).2.length = b.length % 64 := by
  induction hn : b.length using Nat.strongRecOn generalizing h b with
  | _ n ih =>
    subst hn
    by_cases h64 : 64 ≤ b.length
    · rw [feed_ge h64, ih _ (by rw [List.length_drop]; omega) _ _ rfl, List.length_drop, Nat.mod_eq_sub_mod h64]
    · rw [feed_lt (h := h) (b := b) (by omega)]
      show b.length = b.length % 64
      omega
theorem feed_small (h : List Wd) (b : List By) : (feed h b).2.length < 64 := by rw [feed_rest]; exact Nat.mod_lt _ (by decide)
theorem feed_len {h : List Wd} (hh : h.length = 8) (b : List By) : (feed h b).1.length = 8 := by
  induction hn : b.length using Nat.strongRecOn generalizing h b with
  | _ n ih =>
    subst hn
    by_cases h64 : 64 ≤ b.length
    · rw [feed_ge h64]
      exact ih _ (by rw [List.length_drop]; omega) (blk_len _ hh) _ rfl
    · rw [feed_lt (by omega)]; exact hh
/-- A number of 64 bits. -/
abbrev Nm : Type := BitVec 64
def nv (x : Nm) : Value := .int .u64 (x.toNat : Int)
def be8 (n : Nm) : List By := [56, 48, 40, 32, 24, 16, 8, 0].map fun s => (n >>> s).setWidth 8
theorem be8_len (n : Nm) : (be8 n).length = 8 := rfl
theorem w64 (n : Nat) : IntKind.u64.wrap (n : Int) = ((BitVec.ofNat 64 n).toNat : Int) := by simp [IntKind.wrap, IntKind.bits, IntKind.signed]
/-- How many bytes 00 stand behind the 80. -/
def zeros (n : Nat) : Nat := (119 - n % 64) % 64
theorem zeros_fit (n : Nat) : (n + 1 + zeros n) % 64 = 56 := by unfold zeros; omega
theorem zeros_less {n j : Nat} (hj : j < zeros n) : (n + 1 + j) % 64 ≠ 56 := by unfold zeros at hj; omega
def pad (b : List By) : List By := b ++ [0x80] ++ List.replicate (zeros b.length) 0
def full (b : List By) : List By := pad b ++ be8 (BitVec.ofNat 64 (8 * b.length))
theorem pad_len (b : List By) : (pad b).length = b.length + 1 + zeros b.length := by simp [pad]; omega
theorem full_len (b : List By) : (full b).length % 64 = 0 := by
  have := zeros_fit b.length
  rw [full, List.length_append, pad_len, be8_len]
  omega
/-- Words as bytes. -/
def outB (h : List Wd) : List By := h.flatMap fun (w : Wd) => [(w >>> 24).setWidth 8, (w >>> 16).setWidth 8, (w >>> 8).setWidth 8, w.setWidth 8]
def sha (b : List By) : List By := outB (feed hIni (full b)).1
theorem outB_len (h : List Wd) : (outB h).length = 4 * h.length := by
  induction h with
  | nil => rfl
  | cons x h ih => rw [outB, List.flatMap_cons, List.length_append, ← outB, ih]; simp; omega
theorem sha_len (b : List By) : (sha b).length = 32 := by rw [sha, outB_len, feed_len rfl]
theorem outB_get : ∀ (h : List Wd) (i : Nat), i < 4 * h.length → (outB h).getD i 0 = (h.getD (i / 4) 0 >>> (24 - 8 * (i % 4))).setWidth 8
  | [], i, hi => absurd hi (by simp)
  | x :: h, i, hi => by
    rw [outB, List.flatMap_cons, ← outB]
    rcases Nat.lt_or_ge i 4 with h4 | h4
    · match i, h4 with
      | 0, _ => rfl
      | 1, _ => rfl
      | 2, _ => rfl
      | 3, _ => simp
    · rw [List.getD_eq_getElem?_getD, List.getElem?_append_right (by simpa using h4), ← List.getD_eq_getElem?_getD]
      rw [show i - [BitVec.setWidth 8 (x >>> 24), BitVec.setWidth 8 (x >>> 16), BitVec.setWidth 8 (x >>> 8), BitVec.setWidth 8 x].length = i - 4 from rfl]
      rw [outB_get h (i - 4) (by simp only [List.length_cons] at hi; omega), show i / 4 = (i - 4) / 4 + 1 by omega, List.getD_cons_succ, show i % 4 = (i - 4) % 4 by omega]
/-- HMAC. -/
def key64 (k : List By) : List By := (if 64 < k.length then sha k else k) ++ List.replicate (64 - (if 64 < k.length then sha k else k).length) 0
theorem key64_len (k : List By) : (key64 k).length = 64 := by
  unfold key64
  by_cases h : 64 < k.length
  · rw [if_pos h, List.length_append, sha_len, List.length_replicate]
  · rw [if_neg h, List.length_append, List.length_replicate]; omega
def mac (k b : List By) : List By := sha ((key64 k).map (· ^^^ 0x5c) ++ sha ((key64 k).map (· ^^^ 0x36) ++ b))
theorem mac_len (k b : List By) : (mac k b).length = 32 := sha_len _
/-- Passwords. -/
def passR (salt d : List By) : Nat → List By
  | 0 => d
  | n + 1 => sha (passR salt d n ++ salt)
def pass (salt t : List By) (n : Nat) : List By := passR salt (sha (salt ++ be8 (BitVec.ofNat 64 t.length) ++ t)) n
theorem passR_len {salt d : List By} (hd : d.length = 32) : ∀ n, (passR salt d n).length = 32
  | 0 => hd
  | n + 1 => sha_len _
theorem pass_len (salt t : List By) (n : Nat) : (pass salt t n).length = 32 := passR_len (sha_len _) n
end Go.Proofs.YtkppipeadibfkaaDoor
