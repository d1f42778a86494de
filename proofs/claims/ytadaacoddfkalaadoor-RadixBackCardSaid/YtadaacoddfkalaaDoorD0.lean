/- Decimals in plain Lean: a numeral is read as its number, and is the one numeral that is. No program in sight. No conditions but those of each lemma. -/
import Derived.Lib.ItoaNum
import Derived.Lib.ParseIntBCases
import Derived.Lib.SlTrimSet
namespace Go.Proofs.YtadaacoddfkalaaDoor
set_option linter.unusedVariables false
set_option linter.unusedSimpArgs false
set_option linter.unnecessarySimpa false
def isD (c : UInt8) : Prop := 48 ≤ c.toNat ∧ c.toNat ≤ 57
def dval (acc : Nat) (l : List UInt8) : Nat := l.foldl (fun a c => a * 10 + (c.toNat - 48)) acc
theorem dval_cons (acc : Nat) (c : UInt8) (l : List UInt8) : dval acc (c :: l) = dval (acc * 10 + (c.toNat - 48)) l := by unfold dval; exact List.foldl_cons ..
theorem dval_snoc (acc : Nat) (l : List UInt8) (c : UInt8) : dval acc (l ++ [c]) = dval acc l * 10 + (c.toNat - 48) := by unfold dval; rw [List.foldl_append]; rfl
theorem dval_ge (l : List UInt8) : ∀ (acc : Nat), acc ≤ dval acc l := by
  induction l with
  | nil => exact fun acc => Nat.le_refl _
  | cons c l ih =>
    intro acc
    have := ih (acc * 10 + (c.toNat - 48))
    rw [dval_cons]
    omega
theorem pu_cons (M acc : Nat) (c : UInt8) (l : List UInt8) (h : 48 ≤ c.toNat ∧ c.toNat ≤ 57) : Lib.parseUintM M acc (c :: l) = if 1844674407370955162 ≤ acc then .range else if M < acc * 10 + (c.toNat - 48) then .range else Lib.parseUintM M (acc * 10 + (c.toNat - 48)) l := by rw [Lib.parseUintM, if_pos h]
theorem parse_ok {M : Nat} (hM : M ≤ 18446744073709551615) (l : List UInt8) : ∀ (acc : Nat), (∀ c ∈ l, isD c) → dval acc l ≤ M → Lib.parseUintM M acc l = .ok (dval acc l) := by
  induction l with
  | nil => intro acc _ _; rfl
  | cons c l ih =>
    intro acc hd hv
    have h1 : 48 ≤ c.toNat ∧ c.toNat ≤ 57 := hd c (List.mem_cons_self ..)
    have h2 := dval_ge l (acc * 10 + (c.toNat - 48))
    rw [dval_cons] at hv ⊢
    rw [pu_cons _ _ _ _ h1, if_neg (by omega), if_neg (by omega), ih _ (fun x hx => hd x (List.mem_cons_of_mem _ hx)) hv]
theorem parse_inv {M : Nat} (l : List UInt8) : ∀ (acc u : Nat), Lib.parseUintM M acc l = .ok u → (∀ c ∈ l, isD c) ∧ u = dval acc l := by
  induction l with
  | nil =>
    intro acc u h
    rw [Lib.parseUintM] at h
    injection h with h
    exact ⟨fun _ h => by simp at h, h.symm⟩
  | cons c l ih =>
    intro acc u h
    by_cases h1 : 48 ≤ c.toNat ∧ c.toNat ≤ 57
    · rw [pu_cons _ _ _ _ h1] at h
      split at h
      · cases h
      · split at h
        · cases h
        · obtain ⟨h2, h3⟩ := ih _ u h
          exact ⟨fun x hx => (List.mem_cons.1 hx).elim (fun e => e ▸ h1) (h2 x), h3⟩
    · rw [Lib.parseUintM, if_neg h1] at h
      cases h
/-- a number, or one that is too great. -/
def NumOk {α : Type} (e : Lib.NumEnd α) : Prop := (∃ u, e = .ok u) ∨ e = .range
theorem parse_nosyn {M : Nat} (l : List UInt8) : ∀ (acc : Nat), (∀ c ∈ l, isD c) → NumOk (Lib.parseUintM M acc l) := by
  induction l with
  | nil => intro acc _; rw [Lib.parseUintM]; exact .inl ⟨_, rfl⟩
  | cons c l ih =>
    intro acc hd
    have h1 : 48 ≤ c.toNat ∧ c.toNat ≤ 57 := hd c (List.mem_cons_self ..)
    rw [pu_cons _ _ _ _ h1]
    split
    · exact .inr rfl
    · split
      · exact .inr rfl
      · exact ih _ (fun x hx => hd x (List.mem_cons_of_mem _ hx))
/-! ### The numeral -/
theorem dec_small {u : Nat} (h : u < 10) : Lib.decDigits u = [UInt8.ofNat (48 + u)] := by rw [Lib.decDigits, dif_pos h]
theorem dec_big {u : Nat} (h : ¬ u < 10) : Lib.decDigits u = Lib.decDigits (u / 10) ++ [UInt8.ofNat (48 + u % 10)] := by rw [Lib.decDigits, dif_neg h]
theorem o8 (n : Nat) (h : n < 256) : (UInt8.ofNat n).toNat = n := by rw [UInt8.toNat_ofNat']; omega
theorem o8_eq {x : UInt8} {n : Nat} (h : x.toNat = n) : UInt8.ofNat n = x := by subst h; simp
theorem dec_all : ∀ (u : Nat), (∀ c ∈ Lib.decDigits u, isD c) ∧ dval 0 (Lib.decDigits u) = u ∧ Lib.decDigits u ≠ [] ∧ (∀ c, (Lib.decDigits u).head? = some c → c.toNat = 48 → u = 0) := by
  intro u
  induction u using Nat.strongRecOn with
  | _ u ih =>
    by_cases h : u < 10
    · rw [dec_small h]
      have e := o8 (48 + u) (by omega)
      refine ⟨fun c hc => ?_, ?_, by simp, fun c hc h0 => ?_⟩
      · obtain rfl := List.mem_singleton.1 hc
        unfold isD
        omega
      · show 0 * 10 + ((UInt8.ofNat (48 + u)).toNat - 48) = u
        omega
      · obtain rfl : UInt8.ofNat (48 + u) = c := by simpa using hc
        omega
    · rw [dec_big h]
      obtain ⟨h1, h2, h3, h4⟩ := ih (u / 10) (by omega)
      have e := o8 (48 + u % 10) (by omega)
      refine ⟨fun c hc => ?_, ?_, by simp, fun c hc h0 => ?_⟩
      · rcases List.mem_append.1 hc with hc | hc
        · exact h1 c hc
        · obtain rfl := List.mem_singleton.1 hc
          unfold isD
          omega
      · rw [dval_snoc, h2]
        omega
      · rw [List.head?_append] at hc
        cases hh : (Lib.decDigits (u / 10)).head? with
        | none => exact absurd (List.head?_eq_none_iff.1 hh) h3
        | some d =>
          rw [hh] at hc
          obtain rfl : d = c := by simpa using hc
          have := h4 d hh h0
          omega
theorem dval_pos {c : UInt8} {l : List UInt8} (hc : isD c) (h : c.toNat ≠ 48) : 0 < dval 0 (c :: l) := by
  have := dval_ge l (0 * 10 + (c.toNat - 48))
  rw [dval_cons]
  unfold isD at hc
  omega
theorem dec_dval : ∀ (n : Nat) (l : List UInt8), l.length = n → (∀ c ∈ l, isD c) → l ≠ [] → (∀ c, l.head? = some c → c.toNat = 48 → l.length = 1) → Lib.decDigits (dval 0 l) = l := by
  intro n
  induction n with
  | zero => intro l hl _ hne; exact absurd (List.length_eq_zero_iff.1 hl) hne
  | succ n ih =>
    intro l hl hd hne hz
    obtain ⟨r, d, rfl⟩ : ∃ r d, l = r ++ [d] := ⟨l.dropLast, l.getLast hne, (List.dropLast_concat_getLast hne).symm⟩
    have hdd := hd d (by simp)
    rw [dval_snoc]
    cases r with
    | nil =>
      unfold isD at hdd
      show Lib.decDigits (0 * 10 + (d.toNat - 48)) = [d]
      rw [dec_small (by omega), o8_eq (x := d) (by omega)]
    | cons c r =>
      have hcd := hd c (by simp)
      have hc0 : c.toNat ≠ 48 := fun h0 => by
        have := hz c (by simp) h0
        simp at this
      have hp := dval_pos (l := r) hcd hc0
      have hi := ih (c :: r) (by simpa using hl) (fun x hx => hd x (List.mem_append_left _ hx)) (by simp) (fun x hx h0 => by
        obtain rfl : c = x := by simpa using hx
        exact absurd h0 hc0)
      unfold isD at hdd
      rw [dec_big (by omega), show (dval 0 (c :: r) * 10 + (d.toNat - 48)) / 10 = dval 0 (c :: r) by omega, hi, o8_eq (x := d) (by omega)]
/-! ### Number10 -/
def digs : List UInt8 := [48, 49, 50, 51, 52, 53, 54, 55, 56, 57]
theorem digs_isD (c : UInt8) : digs.contains c = true ↔ isD c := by
  have h : ∀ k : Fin 256, digs.contains (UInt8.ofNat k.val) = decide (48 ≤ k.val ∧ k.val ≤ 57) := by decide +kernel
  have h2 := h ⟨c.toNat, UInt8.toNat_lt c⟩
  simp only [UInt8.ofNat_toNat] at h2
  rw [h2, decide_eq_true_iff]
  rfl
theorem dw_nil {p : UInt8 → Bool} : ∀ {l : List UInt8}, l.dropWhile p = [] ↔ ∀ x ∈ l, p x = true
  | [] => by simp
  | c :: l => by
    rw [List.dropWhile_cons]
    split
    · rename_i h
      rw [dw_nil]
      constructor
      · intro h2 x hx
        rcases List.mem_cons.1 hx with rfl | hx
        · exact h
        · exact h2 x hx
      · exact fun h2 x hx => h2 x (List.mem_cons_of_mem _ hx)
    · rename_i h
      constructor
      · intro h2; cases h2
      · intro h2; exact absurd (h2 c (List.mem_cons_self ..)) h
theorem dw_head {p : UInt8 → Bool} : ∀ {l : List UInt8} {y : UInt8} {r : List UInt8}, l.dropWhile p = y :: r → p y = false
  | [], _, _, h => by cases h
  | c :: l, y, r, h => by
    rw [List.dropWhile_cons] at h
    split at h
    · exact dw_head h
    · rename_i hc
      injection h with h1 _
      rw [← h1]
      simpa using hc
theorem trimS_nil (l cs : List UInt8) : Lib.trimS l cs = [] ↔ ∀ x ∈ l, cs.contains x = true := by
  unfold Lib.trimS Lib.trimLeftS Lib.trimRightS
  rw [dw_nil]
  constructor
  · intro h
    have h2 : l.reverse.dropWhile (cs.contains ·) = [] := by
      cases hd : l.reverse.dropWhile (cs.contains ·) with
      | nil => rfl
      | cons y r =>
        have h3 := dw_head hd
        have h4 := h y (by rw [List.mem_reverse, hd]; simp)
        rw [h4] at h3
        cases h3
    rw [dw_nil] at h2
    exact fun x hx => h2 x (by simpa using hx)
  · intro h x hx
    rw [List.mem_reverse] at hx
    exact h x (by simpa using (List.dropWhile_sublist _).subset hx)
def n10bad (s : List UInt8) : Prop := Lib.trimPrefix s [45] = [] ∨ ¬ (∀ x ∈ Lib.trimPrefix s [45], isD x) ∨ (∃ c, (Lib.trimPrefix s [45]).head? = some c ∧ c.toNat = 48 ∧ s ≠ [48])
/-- the text is a numeral, and that one's. -/
def N10 (s : List UInt8) (v : Int) : Prop := ¬ n10bad s ∧ Lib.parseIntB 64 s = .ok v
theorem tp_minus (d : List UInt8) : Lib.trimPrefix (45 :: d) [45] = d := rfl
theorem tp_other {c : UInt8} {d : List UInt8} (h : c.toNat ≠ 45) : Lib.trimPrefix (c :: d) [45] = c :: d := by
  unfold Lib.trimPrefix Lib.hasPrefix
  have : (45 == c) = false := by
    rw [beq_eq_false_iff_ne]
    intro e
    subst e
    exact h rfl
  rw [if_neg (by simp [List.isPrefixOf, this])]
theorem tp_cases (s : List UInt8) : (∃ d, s = 45 :: d ∧ Lib.trimPrefix s [45] = d) ∨ ((∀ c d, s = c :: d → c.toNat ≠ 45) ∧ Lib.trimPrefix s [45] = s) := by
  cases s with
  | nil => exact .inr ⟨fun _ _ h => (nomatch h), rfl⟩
  | cons c d =>
    by_cases h : c.toNat = 45
    · obtain rfl : c = 45 := by rw [← o8_eq h]; rfl
      exact .inl ⟨d, rfl, rfl⟩
    · exact .inr ⟨fun _ _ e => by injection e with e1 _; rw [← e1]; exact h, tp_other h⟩
theorem itoa_n10 {n : Int} (h0 : -9223372036854775808 ≤ n) (h1 : n ≤ 9223372036854775807) : N10 (Lib.itoa n) n := by
  unfold Lib.itoa
  by_cases hn : n < 0
  · rw [if_pos hn]
    obtain ⟨hd, hv, hne, hz⟩ := dec_all n.natAbs
    have hb : ¬ n10bad (45 :: Lib.decDigits n.natAbs) := by
      unfold n10bad
      rw [tp_minus]
      rintro (h | h | ⟨c, hc, h48, _⟩)
      · exact hne h
      · exact h hd
      · have := hz c hc h48; omega
    refine ⟨hb, ?_⟩
    have hp : Lib.parseUintB 64 (Lib.decDigits n.natAbs) = .ok n.natAbs := by
      unfold Lib.parseUintB
      rw [if_neg hne, parse_ok (by decide) _ _ hd (by rw [hv]; omega), hv]
    rw [Lib.parseIntB_minus, hp]
    unfold Lib.signedC
    simp only
    rw [if_neg (by simp only [Nat.reduceSub, Nat.reducePow]; omega)]
    congr 1
    omega
  · rw [if_neg hn]
    obtain ⟨hd, hv, hne, hz⟩ := dec_all n.toNat
    obtain ⟨c, r, hcr⟩ : ∃ c r, Lib.decDigits n.toNat = c :: r := by
      cases hq : Lib.decDigits n.toNat with
      | nil => exact absurd hq hne
      | cons c r => exact ⟨c, r, rfl⟩
    have hcd := hd c (by rw [hcr]; simp)
    have hcd2 : 48 ≤ c.toNat ∧ c.toNat ≤ 57 := hcd
    have htp : Lib.trimPrefix (Lib.decDigits n.toNat) [45] = Lib.decDigits n.toNat := by rw [hcr]; exact tp_other (by omega)
    have hb : ¬ n10bad (Lib.decDigits n.toNat) := by
      unfold n10bad
      rw [htp]
      rintro (h | h | ⟨c, hc, h48, hx⟩)
      · exact hne h
      · exact h hd
      · have := hz c hc h48
        rw [this] at hx
        exact hx (by rw [dec_small (by decide)]; rfl)
    refine ⟨hb, ?_⟩
    have hp : Lib.parseUintB 64 (Lib.decDigits n.toNat) = .ok n.toNat := by
      unfold Lib.parseUintB
      rw [if_neg hne, parse_ok (by decide) _ _ hd (by rw [hv]; omega), hv]
    rw [hcr] at hp ⊢
    rw [Lib.parseIntB_plain 64 c r (by omega) (by omega), hp]
    show (if 2 ^ (64 - 1) ≤ n.toNat then _ else Lib.NumEnd.ok ((n.toNat : Nat) : Int)) = _
    rw [if_neg (by simp only [Nat.reduceSub, Nat.reducePow]; omega)]
    congr 1
    omega
theorem n10_itoa {s : List UInt8} {n : Int} (h : N10 s n) : Lib.itoa n = s := by
  obtain ⟨hb, h⟩ := h
  have hdummy : True := trivial
  · clear hdummy
    have hb1 : Lib.trimPrefix s [45] ≠ [] := fun e => hb (.inl e)
    have hb2 : ∀ x ∈ Lib.trimPrefix s [45], isD x := Classical.byContradiction fun e => hb (.inr (.inl e))
    have hb3 : ∀ c, (Lib.trimPrefix s [45]).head? = some c → c.toNat = 48 → s = [48] := fun c h1 h2 => Classical.byContradiction fun e => hb (.inr (.inr ⟨c, h1, h2, e⟩))
    rcases tp_cases s with ⟨d, rfl, e⟩ | ⟨hm, e⟩
    · rw [e] at hb1 hb2 hb3
      rw [Lib.parseIntB_minus] at h
      unfold Lib.parseUintB at h
      rw [if_neg hb1] at h
      rcases parse_nosyn (M := 2 ^ 64 - 1) d 0 hb2 with ⟨u, hp⟩ | hp
      case inr => rw [hp] at h; cases h
      case inl =>
        rw [hp] at h
        have hu := (parse_inv d 0 u hp).2
        unfold Lib.signedC at h
        simp only at h
        split at h
        · cases h
        · injection h with h
          obtain ⟨c, r, rfl⟩ : ∃ c r, d = c :: r := by
            cases d with
            | nil => exact absurd rfl hb1
            | cons c r => exact ⟨c, r, rfl⟩
          have hc0 : c.toNat ≠ 48 := fun h0 => by
            have := hb3 c rfl h0
            simp at this
          have hpos := dval_pos (l := r) (hb2 c (List.mem_cons_self ..)) hc0
          rw [← hu] at hpos
          unfold Lib.itoa
          rw [if_pos (by omega), show n.natAbs = u by omega, hu, dec_dval _ (c :: r) rfl hb2 (by simp) (fun x hx h0 => by
            obtain rfl : c = x := by simpa using hx
            exact absurd h0 hc0)]
    · rw [e] at hb1 hb2 hb3
      obtain ⟨c, r, rfl⟩ : ∃ c r, s = c :: r := by
        cases s with
        | nil => exact absurd rfl hb1
        | cons c r => exact ⟨c, r, rfl⟩
      have hcd : 48 ≤ c.toNat ∧ c.toNat ≤ 57 := hb2 c (List.mem_cons_self ..)
      rw [Lib.parseIntB_plain 64 c r (by omega) (by omega)] at h
      unfold Lib.parseUintB at h
      rw [if_neg hb1] at h
      rcases parse_nosyn (M := 2 ^ 64 - 1) (c :: r) 0 hb2 with ⟨u, hp⟩ | hp
      case inr => rw [hp] at h; cases h
      case inl =>
        rw [hp] at h
        have hu := (parse_inv _ 0 u hp).2
        unfold Lib.signlessC at h
        simp only at h
        split at h
        · cases h
        · injection h with h
          unfold Lib.itoa
          rw [if_neg (by omega), show n.toNat = u by omega, hu, dec_dval _ (c :: r) rfl hb2 (by simp) (fun x hx h0 => by
            have := hb3 x hx h0
            rw [this]
            rfl)]
theorem n10_more (s : List UInt8) : n10bad (s ++ [10]) := by
  unfold n10bad
  refine .inr (.inl fun h => ?_)
  rcases tp_cases (s ++ [10]) with ⟨d, e1, e⟩ | ⟨_, e⟩
  · rw [e] at h
    cases s with
    | nil => cases e1
    | cons c r =>
      obtain rfl : r ++ [10] = d := by
        rw [List.cons_append] at e1
        injection e1
      have := h 10 (by simp)
      unfold isD at this
      exact absurd this (by decide)
  · rw [e] at h
    have := h 10 (by simp)
    unfold isD at this
    exact absurd this (by decide)
theorem n10_nosyn {s : List UInt8} (hb : ¬ n10bad s) : NumOk (Lib.parseIntB 64 s) := by
  have hb1 : Lib.trimPrefix s [45] ≠ [] := fun e => hb (.inl e)
  have hb2 : ∀ x ∈ Lib.trimPrefix s [45], isD x := Classical.byContradiction fun e => hb (.inr (.inl e))
  rcases tp_cases s with ⟨d, rfl, e⟩ | ⟨hm, e⟩
  · rw [e] at hb1 hb2
    rw [Lib.parseIntB_minus]
    unfold Lib.parseUintB
    rw [if_neg hb1]
    rcases parse_nosyn (M := 2 ^ 64 - 1) d 0 hb2 with ⟨u, hp⟩ | hp
    · rw [hp]
      unfold Lib.signedC
      simp only
      split
      · exact .inr rfl
      · exact .inl ⟨_, rfl⟩
    · rw [hp]
      exact .inr rfl
  · rw [e] at hb1 hb2
    obtain ⟨c, r, rfl⟩ : ∃ c r, s = c :: r := by
      cases s with
      | nil => exact absurd rfl hb1
      | cons c r => exact ⟨c, r, rfl⟩
    have hcd : 48 ≤ c.toNat ∧ c.toNat ≤ 57 := hb2 c (List.mem_cons_self ..)
    rw [Lib.parseIntB_plain 64 c r (by omega) (by omega)]
    unfold Lib.parseUintB
    rw [if_neg hb1]
    rcases parse_nosyn (M := 2 ^ 64 - 1) (c :: r) 0 hb2 with ⟨u, hp⟩ | hp
    · rw [hp]
      unfold Lib.signlessC
      simp only
      split
      · exact .inr rfl
      · exact .inl ⟨_, rfl⟩
    · rw [hp]
      exact .inr rfl
end Go.Proofs.YtadaacoddfkalaaDoor
