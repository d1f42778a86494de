/- Base 64 in plain Lean: letters of bytes, bytes of letters; the one undoes the other. No program in sight. No conditions but those of each lemma. -/
import Init
namespace Go.Proofs.YtadaacoddfkalaaDoor
set_option linter.unusedVariables false
set_option linter.unusedSimpArgs false
set_option linter.unnecessarySimpa false
def tri (l : List UInt8) : Nat := (l.getD 0 0).toNat * 65536 + (l.getD 1 0).toNat * 256 + (l.getD 2 0).toNat
def six (n k : Nat) : Nat := n / 2 ^ (18 - 6 * k) % 64
def L64 (set : List UInt8) (k : Nat) : UInt8 := set.getD k 0
def group (set l : List UInt8) : List UInt8 := (List.range (min l.length 3 + 1)).map (fun k => L64 set (six (tri l) k))
def enc (set : List UInt8) : List UInt8 → List UInt8
  | [] => []
  | [a] => group set [a]
  | [a, b] => group set [a, b]
  | a :: b :: c :: r => group set [a, b, c] ++ enc set r
theorem group3 (set : List UInt8) (a b c : UInt8) (r : List UInt8) : group set (a :: b :: c :: r) = group set [a, b, c] := by
  unfold group
  rw [show min (a :: b :: c :: r).length 3 = 3 by simp]
  rfl
theorem enc_step {set l : List UInt8} (h : l ≠ []) : enc set l = group set l ++ enc set (l.drop (min l.length 3)) := by
  match l, h with
  | [a], _ => simp [enc]
  | [a, b], _ => simp [enc]
  | a :: b :: c :: r, _ =>
    rw [group3, show min (a :: b :: c :: r).length 3 = 3 by simp]
    rfl
theorem enc_app {set c b : List UInt8} (h : c.length % 3 = 0) : enc set (c ++ b) = enc set c ++ enc set b := by
  match c with
  | [] => rfl
  | [_] => simp at h
  | [_, _] => simp at h
  | x :: y :: z :: r =>
    have h2 : r.length % 3 = 0 := by simp at h; omega
    show group set [x, y, z] ++ enc set (r ++ b) = (group set [x, y, z] ++ enc set r) ++ enc set b
    rw [enc_app h2, List.append_assoc]
theorem enc_len (set : List UInt8) : ∀ l : List UInt8, (enc set l).length = (4 * l.length + 2) / 3
  | [] => rfl
  | [_] => by simp [enc, group]
  | [_, _] => by simp [enc, group]
  | a :: b :: c :: r => by
    show (group set [a, b, c] ++ enc set r).length = _
    rw [List.length_append, enc_len set r]
    simp [group]
    omega
/-! ### Bytes of letters -/
def ix (set : List UInt8) (c : UInt8) : Option Nat := set.findIdx? (· == c)
abbrev DS := Nat × Nat × List UInt8
def dput (n bits : Nat) (out : List UInt8) : DS := if 8 ≤ bits then (n % 2 ^ (bits - 8), bits - 8, out ++ [UInt8.ofNat (n / 2 ^ (bits - 8))]) else (n, bits, out)
def dstep (set : List UInt8) (st : DS) (c : UInt8) : Option DS := match ix set c with
  | none => none
  | some k => some (dput (st.1 * 64 + k) (st.2.1 + 6) st.2.2)
def dec (set : List UInt8) : DS → List UInt8 → Option DS
  | st, [] => some st
  | st, c :: r => match dstep set st c with
    | none => none
    | some st' => dec set st' r
theorem dec_app (set : List UInt8) : ∀ (s t : List UInt8) (st : DS), dec set st (s ++ t) = (dec set st s).bind (fun st' => dec set st' t)
  | [], t, st => rfl
  | c :: s, t, st => by
    have e1 : dec set st (c :: s ++ t) = (match dstep set st c with | none => none | some st' => dec set st' (s ++ t)) := rfl
    have e2 : dec set st (c :: s) = (match dstep set st c with | none => none | some st' => dec set st' s) := rfl
    rw [e1, e2]
    cases h : dstep set st c with
    | none => rfl
    | some st' => exact dec_app set s t st'
/-- what the state of the reading is: few bits, a small number. -/
def DSok (st : DS) : Prop := (st.2.1 = 0 ∨ st.2.1 = 2 ∨ st.2.1 = 4 ∨ st.2.1 = 6) ∧ st.1 < 2 ^ st.2.1
theorem ix_some {set : List UInt8} {c : UInt8} {k : Nat} (h : ix set c = some k) : k < set.length ∧ set.getD k 0 = c := by
  unfold ix at h
  obtain ⟨h1, h2, _⟩ := List.findIdx?_eq_some_iff_getElem.1 h
  refine ⟨h1, ?_⟩
  rw [List.getD_eq_getElem?_getD, List.getElem?_eq_getElem h1]
  simpa using h2
theorem ix_get {set : List UInt8} (hn : set.Nodup) {k : Nat} (hk : k < set.length) : ix set (L64 set k) = some k := by
  unfold ix L64
  rw [List.getD_eq_getElem?_getD, List.getElem?_eq_getElem hk, Option.getD_some]
  refine List.findIdx?_eq_some_iff_getElem.2 ⟨hk, by simp, fun j hj => ?_⟩
  have := List.pairwise_iff_getElem.1 hn j k (by omega) hk hj
  simpa using this
theorem DSok.step {set : List UInt8} (hs : set.length = 64) {st st' : DS} {c : UInt8} (h : DSok st) (h2 : dstep set st c = some st') : DSok st' ∧ ∃ k, ix set c = some k ∧ k < 64 ∧ st' = dput (st.1 * 64 + k) (st.2.1 + 6) st.2.2 := by
  unfold dstep at h2
  cases hk : ix set c with
  | none => rw [hk] at h2; cases h2
  | some k =>
    rw [hk] at h2
    injection h2 with h2
    have h3 := (ix_some hk).1
    rw [hs] at h3
    refine ⟨?_, k, rfl, h3, h2.symm⟩
    subst h2
    obtain ⟨n, b, o⟩ := st
    obtain ⟨hb, hn⟩ := h
    have hb : b = 0 ∨ b = 2 ∨ b = 4 ∨ b = 6 := hb
    have hn : n < 2 ^ b := hn
    rcases hb with rfl | rfl | rfl | rfl
    · have e : dput (n * 64 + k) (0 + 6) o = (n * 64 + k, 6, o) := rfl
      show DSok (dput (n * 64 + k) (0 + 6) o)
      rw [e]
      exact ⟨by simp, by show n * 64 + k < 64; simp only [Nat.reducePow] at hn; omega⟩
    · have e : dput (n * 64 + k) (2 + 6) o = ((n * 64 + k) % 1, 0, o ++ [UInt8.ofNat ((n * 64 + k) / 1)]) := rfl
      show DSok (dput (n * 64 + k) (2 + 6) o)
      rw [e]
      exact ⟨by simp, by show (n * 64 + k) % 1 < 1; omega⟩
    · have e : dput (n * 64 + k) (4 + 6) o = ((n * 64 + k) % 4, 2, o ++ [UInt8.ofNat ((n * 64 + k) / 4)]) := rfl
      show DSok (dput (n * 64 + k) (4 + 6) o)
      rw [e]
      exact ⟨by simp, by show (n * 64 + k) % 4 < 4; omega⟩
    · have e : dput (n * 64 + k) (6 + 6) o = ((n * 64 + k) % 16, 4, o ++ [UInt8.ofNat ((n * 64 + k) / 16)]) := rfl
      show DSok (dput (n * 64 + k) (6 + 6) o)
      rw [e]
      exact ⟨by simp, by show (n * 64 + k) % 16 < 16; omega⟩
/-- Four letters in a row, from nothing. -/
theorem four (n0 n1 n2 n3 : Nat) (h0 : n0 < 64) (h1 : n1 < 64) (h2 : n2 < 64) (h3 : n3 < 64) (out : List UInt8) :
    dput (0 * 64 + n0) (0 + 6) out = (n0, 6, out) ∧
    dput (n0 * 64 + n1) (6 + 6) out = (n1 % 16, 4, out ++ [UInt8.ofNat (n0 * 4 + n1 / 16)]) ∧
    (∀ o, dput (n1 % 16 * 64 + n2) (4 + 6) o = (n2 % 4, 2, o ++ [UInt8.ofNat (n1 % 16 * 16 + n2 / 4)])) ∧
    (∀ o, dput (n2 % 4 * 64 + n3) (2 + 6) o = (0, 0, o ++ [UInt8.ofNat (n2 % 4 * 64 + n3)])) := by
  unfold dput
  refine ⟨?_, ?_, fun o => ?_, fun o => ?_⟩
  · simp
  · simp only [Nat.reduceAdd, Nat.reduceLeDiff, if_true, Nat.reduceSub, Nat.reducePow]
    rw [show (n0 * 64 + n1) % 16 = n1 % 16 by omega, show (n0 * 64 + n1) / 16 = n0 * 4 + n1 / 16 by omega]
  · simp only [Nat.reduceAdd, Nat.reduceLeDiff, if_true, Nat.reduceSub, Nat.reducePow]
    rw [show (n1 % 16 * 64 + n2) % 4 = n2 % 4 by omega, show (n1 % 16 * 64 + n2) / 4 = n1 % 16 * 16 + n2 / 4 by omega]
  · simp only [Nat.reduceAdd, Nat.reduceLeDiff, if_true, Nat.reduceSub, Nat.reducePow]
    rw [show (n2 % 4 * 64 + n3) % 1 = 0 by omega, show (n2 % 4 * 64 + n3) / 1 = n2 % 4 * 64 + n3 by omega]
theorem u8n (n : Nat) (h : n < 256) : (UInt8.ofNat n).toNat = n := by rw [UInt8.toNat_ofNat']; omega
theorem u8_eq {x : UInt8} {n : Nat} (h : x.toNat = n) : UInt8.ofNat n = x := by subst h; simp
theorem grp (set : List UInt8) (l : List UInt8) : group set l = (List.range (min l.length 3 + 1)).map (fun k => L64 set (six (tri l) k)) := rfl
theorem grp1 (set : List UInt8) (a : UInt8) : group set [a] = [L64 set (a.toNat / 4), L64 set (a.toNat % 4 * 16)] := by
  have ha := UInt8.toNat_lt a
  have e : group set [a] = [L64 set (six (tri [a]) 0), L64 set (six (tri [a]) 1)] := rfl
  rw [e, show six (tri [a]) 0 = a.toNat / 4 by simp [six, tri]; omega, show six (tri [a]) 1 = a.toNat % 4 * 16 by simp [six, tri]; omega]
theorem grp2 (set : List UInt8) (a b : UInt8) : group set [a, b] = [L64 set (a.toNat / 4), L64 set (a.toNat % 4 * 16 + b.toNat / 16), L64 set (b.toNat % 16 * 4)] := by
  have ha := UInt8.toNat_lt a
  have hb := UInt8.toNat_lt b
  have e : group set [a, b] = [L64 set (six (tri [a, b]) 0), L64 set (six (tri [a, b]) 1), L64 set (six (tri [a, b]) 2)] := rfl
  rw [e, show six (tri [a, b]) 0 = a.toNat / 4 by simp [six, tri]; omega, show six (tri [a, b]) 1 = a.toNat % 4 * 16 + b.toNat / 16 by simp [six, tri]; omega, show six (tri [a, b]) 2 = b.toNat % 16 * 4 by simp [six, tri]; omega]
theorem grp3 (set : List UInt8) (a b c : UInt8) : group set [a, b, c] = [L64 set (a.toNat / 4), L64 set (a.toNat % 4 * 16 + b.toNat / 16), L64 set (b.toNat % 16 * 4 + c.toNat / 64), L64 set (c.toNat % 64)] := by
  have ha := UInt8.toNat_lt a
  have hb := UInt8.toNat_lt b
  have hc := UInt8.toNat_lt c
  have e : group set [a, b, c] = [L64 set (six (tri [a, b, c]) 0), L64 set (six (tri [a, b, c]) 1), L64 set (six (tri [a, b, c]) 2), L64 set (six (tri [a, b, c]) 3)] := rfl
  rw [e, show six (tri [a, b, c]) 0 = a.toNat / 4 by simp [six, tri]; omega, show six (tri [a, b, c]) 1 = a.toNat % 4 * 16 + b.toNat / 16 by simp [six, tri]; omega, show six (tri [a, b, c]) 2 = b.toNat % 16 * 4 + c.toNat / 64 by simp [six, tri]; omega, show six (tri [a, b, c]) 3 = c.toNat % 64 by simp [six, tri]; omega]
theorem dec_cons {set : List UInt8} {st st' : DS} {c : UInt8} {r : List UInt8} (h : dstep set st c = some st') : dec set st (c :: r) = dec set st' r := by
  show (match dstep set st c with | none => none | some st' => dec set st' r) = _
  rw [h]
theorem dstep_L {set : List UInt8} (hn : set.Nodup) (hs : set.length = 64) {k : Nat} (hk : k < 64) (st : DS) : dstep set st (L64 set k) = some (dput (st.1 * 64 + k) (st.2.1 + 6) st.2.2) := by
  unfold dstep
  rw [ix_get hn (by omega)]
/-- What is written is read. -/
theorem dec_enc {set : List UInt8} (hn : set.Nodup) (hs : set.length = 64) : ∀ (l out : List UInt8), ∃ b, dec set (0, 0, out) (enc set l) = some (0, b, out ++ l)
  | [], out => ⟨0, by simp [enc, dec]⟩
  | [a], out => by
    have ha := UInt8.toNat_lt a
    refine ⟨4, ?_⟩
    obtain ⟨f0, f1, _, _⟩ := four (a.toNat / 4) (a.toNat % 4 * 16) 0 0 (by omega) (by omega) (by omega) (by omega) out
    show dec set _ (group set [a]) = _
    rw [grp1, dec_cons (dstep_L hn hs (by omega) _), f0, dec_cons (dstep_L hn hs (by omega) _)]
    show dec set (dput (a.toNat / 4 * 64 + a.toNat % 4 * 16) (6 + 6) out) [] = _
    rw [f1, u8_eq (x := a) (by omega), show a.toNat % 4 * 16 % 16 = 0 by omega]
    rfl
  | [a, b], out => by
    have ha := UInt8.toNat_lt a
    have hb := UInt8.toNat_lt b
    refine ⟨2, ?_⟩
    obtain ⟨f0, f1, f2, _⟩ := four (a.toNat / 4) (a.toNat % 4 * 16 + b.toNat / 16) (b.toNat % 16 * 4) 0 (by omega) (by omega) (by omega) (by omega) out
    show dec set _ (group set [a, b]) = _
    rw [grp2, dec_cons (dstep_L hn hs (by omega) _), f0, dec_cons (dstep_L hn hs (by omega) _)]
    show dec set (dput (a.toNat / 4 * 64 + (a.toNat % 4 * 16 + b.toNat / 16)) (6 + 6) out) [_] = _
    rw [f1, dec_cons (dstep_L hn hs (by omega) _)]
    show dec set (dput ((a.toNat % 4 * 16 + b.toNat / 16) % 16 * 64 + b.toNat % 16 * 4) (4 + 6) _) [] = _
    rw [f2, u8_eq (x := a) (by omega), u8_eq (x := b) (by omega), show b.toNat % 16 * 4 % 4 = 0 by omega, List.append_assoc]
    rfl
  | a :: b :: c :: r, out => by
    have ha := UInt8.toNat_lt a
    have hb := UInt8.toNat_lt b
    have hc := UInt8.toNat_lt c
    obtain ⟨f0, f1, f2, f3⟩ := four (a.toNat / 4) (a.toNat % 4 * 16 + b.toNat / 16) (b.toNat % 16 * 4 + c.toNat / 64) (c.toNat % 64) (by omega) (by omega) (by omega) (by omega) out
    obtain ⟨k, ih⟩ := dec_enc hn hs r (out ++ [a, b, c])
    refine ⟨k, ?_⟩
    show dec set _ (group set [a, b, c] ++ enc set r) = _
    rw [grp3, List.cons_append, dec_cons (dstep_L hn hs (by omega) _), f0, List.cons_append, dec_cons (dstep_L hn hs (by omega) _)]
    show dec set (dput (a.toNat / 4 * 64 + (a.toNat % 4 * 16 + b.toNat / 16)) (6 + 6) out) _ = _
    rw [f1, List.cons_append, dec_cons (dstep_L hn hs (by omega) _)]
    show dec set (dput ((a.toNat % 4 * 16 + b.toNat / 16) % 16 * 64 + (b.toNat % 16 * 4 + c.toNat / 64)) (4 + 6) _) _ = _
    rw [f2, List.cons_append, dec_cons (dstep_L hn hs (by omega) _), List.nil_append]
    show dec set (dput ((b.toNat % 16 * 4 + c.toNat / 64) % 4 * 64 + c.toNat % 64) (2 + 6) _) _ = _
    rw [f3, u8_eq (x := a) (by omega), u8_eq (x := b) (by omega), u8_eq (x := c) (by omega)]
    rw [show ((out ++ [a]) ++ [b]) ++ [c] = out ++ [a, b, c] by simp, ih]
    simp
theorem dec_uncons {set : List UInt8} (hs : set.length = 64) {st : DS} {c : UInt8} {r : List UInt8} {e : DS} (h : dec set st (c :: r) = some e) : ∃ k, k < 64 ∧ L64 set k = c ∧ dec set (dput (st.1 * 64 + k) (st.2.1 + 6) st.2.2) r = some e := by
  have h : (match dstep set st c with | none => none | some st' => dec set st' r) = some e := h
  unfold dstep at h
  cases hk : ix set c with
  | none => rw [hk] at h; cases h
  | some k =>
    rw [hk] at h
    have h3 := ix_some hk
    rw [hs] at h3
    exact ⟨k, h3.1, h3.2, h⟩
/-- What is read, if nothing is left over, is what would be written. -/
theorem enc_dec {set : List UInt8} (hs : set.length = 64) : ∀ (s out : List UInt8) (b : Nat) (o : List UInt8), s.length % 4 ≠ 1 → dec set (0, 0, out) s = some (0, b, o) → ∃ l, o = out ++ l ∧ enc set l = s
  | [], out, b, o, _, h => by
    have : (0, 0, out) = ((0, b, o) : DS) := Option.some.inj h
    simp only [Prod.mk.injEq] at this
    exact ⟨[], by rw [this.2.2]; simp, rfl⟩
  | [_], _, _, _, hl, _ => absurd rfl hl
  | [c0, c1], out, b, o, _, h => by
    obtain ⟨n0, k0, e0, h⟩ := dec_uncons hs h
    obtain ⟨n1, k1, e1, h⟩ := dec_uncons hs h
    obtain ⟨f0, f1, _, _⟩ := four n0 n1 0 0 k0 k1 (by omega) (by omega) out
    simp only [f0, f1] at h
    have h : (n1 % 16, 4, out ++ [UInt8.ofNat (n0 * 4 + n1 / 16)]) = ((0, b, o) : DS) := Option.some.inj h
    simp only [Prod.mk.injEq] at h
    refine ⟨[UInt8.ofNat (n0 * 4 + n1 / 16)], h.2.2.symm, ?_⟩
    show group set _ = _
    rw [grp1, u8n _ (by omega), show (n0 * 4 + n1 / 16) / 4 = n0 by omega, show (n0 * 4 + n1 / 16) % 4 * 16 = n1 by omega, e0, e1]
  | [c0, c1, c2], out, b, o, _, h => by
    obtain ⟨n0, k0, e0, h⟩ := dec_uncons hs h
    obtain ⟨n1, k1, e1, h⟩ := dec_uncons hs h
    obtain ⟨n2, k2, e2, h⟩ := dec_uncons hs h
    obtain ⟨f0, f1, f2, _⟩ := four n0 n1 n2 0 k0 k1 k2 (by omega) out
    simp only [f0, f1, f2] at h
    have h : (n2 % 4, 2, (out ++ [UInt8.ofNat (n0 * 4 + n1 / 16)]) ++ [UInt8.ofNat (n1 % 16 * 16 + n2 / 4)]) = ((0, b, o) : DS) := Option.some.inj h
    simp only [Prod.mk.injEq] at h
    refine ⟨[UInt8.ofNat (n0 * 4 + n1 / 16), UInt8.ofNat (n1 % 16 * 16 + n2 / 4)], by rw [← h.2.2]; simp, ?_⟩
    show group set _ = _
    rw [grp2, u8n _ (by omega), u8n _ (by omega), show (n0 * 4 + n1 / 16) / 4 = n0 by omega, show (n0 * 4 + n1 / 16) % 4 * 16 + (n1 % 16 * 16 + n2 / 4) / 16 = n1 by omega, show (n1 % 16 * 16 + n2 / 4) % 16 * 4 = n2 by omega, e0, e1, e2]
  | c0 :: c1 :: c2 :: c3 :: r, out, b, o, hl, h => by
    obtain ⟨n0, k0, e0, h⟩ := dec_uncons hs h
    obtain ⟨n1, k1, e1, h⟩ := dec_uncons hs h
    obtain ⟨n2, k2, e2, h⟩ := dec_uncons hs h
    obtain ⟨n3, k3, e3, h⟩ := dec_uncons hs h
    obtain ⟨f0, f1, f2, f3⟩ := four n0 n1 n2 n3 k0 k1 k2 k3 out
    simp only [f0, f1, f2, f3] at h
    obtain ⟨l, hl2, he⟩ := enc_dec hs r _ b o (by simp at hl; omega) h
    refine ⟨UInt8.ofNat (n0 * 4 + n1 / 16) :: UInt8.ofNat (n1 % 16 * 16 + n2 / 4) :: UInt8.ofNat (n2 % 4 * 64 + n3) :: l, by rw [hl2]; simp, ?_⟩
    show group set _ ++ enc set l = _
    rw [he, grp3, u8n _ (by omega), u8n _ (by omega), u8n _ (by omega), show (n0 * 4 + n1 / 16) / 4 = n0 by omega, show (n0 * 4 + n1 / 16) % 4 * 16 + (n1 % 16 * 16 + n2 / 4) / 16 = n1 by omega,
      show (n1 % 16 * 16 + n2 / 4) % 16 * 4 + (n2 % 4 * 64 + n3) / 64 = n2 by omega, show (n2 % 4 * 64 + n3) % 64 = n3 by omega, e0, e1, e2, e3]
    rfl
/-- A letter that is none is found. -/
theorem dec_bad {set : List UInt8} {c : UInt8} (hc : ix set c = none) : ∀ {s : List UInt8} {st : DS}, c ∈ s → dec set st s = none
  | [], _, h => by simp at h
  | x :: s, st, h => by
    show (match dstep set st x with | none => none | some st' => dec set st' s) = none
    by_cases hx : x = c
    · subst hx
      unfold dstep
      rw [hc]
    · have h2 : c ∈ s := (List.mem_cons.1 h).resolve_left (fun e => hx e.symm)
      cases dstep set st x with
      | none => rfl
      | some st' => exact dec_bad hc h2
end Go.Proofs.YtadaacoddfkalaaDoor
