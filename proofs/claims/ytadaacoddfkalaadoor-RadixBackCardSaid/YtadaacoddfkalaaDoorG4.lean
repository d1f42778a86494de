/- RadixOne (4), lays (13). Conditions: the texts are read; the table of powers of ten is laid, ErrRange is set. -/
import Derived.Test.YtadaacoddfkalaaDoorG3
import Derived.Lib.ParseIntBTie
namespace Go.Proofs.YtadaacoddfkalaaDoor
open Go.RowKit Go.Proofs.YtadaacoddfkalaaDoorW.PrintWords KB WG RO
set_option linter.unusedVariables false
set_option linter.unusedSimpArgs false
set_option linter.unnecessarySimpa false
/-! ### lays -/
theorem lays_1 : rdR sUrl [45, 95, 56] (decide (([45, 95, 56] : List UInt8).length % 4 ≠ 1)) = ([251, 255], 0) := by decide +kernel
theorem itoa45 : Lib.itoa (-45) = [45, 52, 53] := by
  unfold Lib.itoa
  rw [if_pos (by decide), show (-45 : Int).natAbs = 45 from rfl, dec_big (by decide), show 45 / 10 = 4 from rfl, dec_small (by decide)]
  rfl
theorem lays_2 : n10R [45, 52, 53] = (-45, 0) := by
  have h := itoa_n10 (n := -45) (by decide) (by decide)
  rw [itoa45] at h
  exact n10R_of h
theorem lays_3 : layR 258 2 = ([1, 2], 0) := by decide +kernel
theorem lays_4 : enc sUrl [251, 255] = [45, 95, 56] := by decide +kernel
/-! ### Rows of texts -/
def sc (l : List UInt8) : List Value := [.string (ST.str l)]
theorem sc_len (l : List UInt8) : (sc l).length = 1 := rfl
theorem sc_one (l : List UInt8) : ∀ u ∈ sc l, u.oneCell' = true := fun u hu => by rw [List.mem_singleton.1 hu]; rfl
def kT : Kd (List UInt8) := kBlk sc 1 sc_len sc_one
/-! ### What is read is what was written -/
theorem url_nodup : sUrl.Nodup := by decide +kernel
theorem plain_nodup : sPlain.Nodup := by decide +kernel
theorem rd_len (set s : List UInt8) (hs : set.length = 64) (r : Bool) : (rdR set s r).1.length ≤ s.length := by
  unfold rdR
  cases h : dec set (0, 0, []) s with
  | none => exact Nat.zero_le _
  | some st =>
    obtain ⟨n, b, o⟩ := st
    have h2 := (out_len (i := 0) hs h).2
    show (if r = false then ([], 11) else if n ≠ 0 then ([], 12) else (o, 0) : List UInt8 × Int).1.length ≤ _
    split
    · exact Nat.zero_le _
    · split
      · exact Nat.zero_le _
      · show o.length ≤ _
        omega
theorem rd_enc {set s : List UInt8} (hs : set.length = 64) {r : Bool} (h4 : r = true → s.length % 4 ≠ 1) (h : (rdR set s r).2 = 0) : enc set (rdR set s r).1 = s := by
  unfold rdR at h ⊢
  cases hd : dec set (0, 0, []) s with
  | none => rw [hd] at h; cases h
  | some st =>
    obtain ⟨n, b, o⟩ := st
    rw [hd] at h
    have h : (if r = false then ([], 11) else if n ≠ 0 then ([], 12) else (o, 0) : List UInt8 × Int).2 = 0 := h
    show enc set (if r = false then ([], 11) else if n ≠ 0 then ([], 12) else (o, 0) : List UInt8 × Int).1 = s
    split at h
    · cases h
    · rename_i hr
      rw [if_neg hr]
      split at h
      · cases h
      · rename_i hn
        rw [if_neg hn]
        obtain rfl : n = 0 := Classical.not_not.1 hn
        obtain ⟨l, hl, he⟩ := enc_dec hs s [] b o (h4 (by cases r <;> simp_all)) hd
        rw [hl, List.nil_append]
        exact he
theorem rd64_enc {s : List UInt8} (h : (rdR sUrl s (decide (s.length % 4 ≠ 1))).2 = 0) : enc sUrl (rdR sUrl s (decide (s.length % 4 ≠ 1))).1 = s := rd_enc rfl (fun h => of_decide_eq_true h) h
theorem rep61 (k : Nat) : Lib.repeatL [61] k = List.replicate k 61 := by
  have := Lib.repeatL_replicate 61 1 k
  rw [Nat.mul_one] at this
  exact this
theorem trimSuf (l : List UInt8) : (∃ m, l = m ++ [61] ∧ Lib.trimSuffix l [61] = m) ∨ (Lib.trimSuffix l [61] = l) := by
  unfold Lib.trimSuffix Lib.hasSuffix
  by_cases h : List.isSuffixOf [61] l = true
  · obtain ⟨m, hm⟩ := List.isSuffixOf_iff_suffix.1 h
    refine .inl ⟨m, hm.symm, ?_⟩
    rw [if_pos h, ← hm]
    simp
  · exact .inr (if_neg h)
/-- the text without up to two pads: they are so many. -/
theorem trim2_pads (s : List UInt8) : ∃ j, j ≤ 2 ∧ s = trim2 s ++ List.replicate j 61 := by
  unfold trim2
  rcases trimSuf s with ⟨m, e, h⟩ | h
  · rw [h]
    rcases trimSuf m with ⟨m2, e2, h2⟩ | h2
    · refine ⟨2, by omega, ?_⟩
      rw [h2, e, e2, List.append_assoc]
      rfl
    · refine ⟨1, by omega, ?_⟩
      rw [h2, e]
      rfl
  · rw [h, h]
    exact ⟨0, by omega, by simp⟩
theorem rdPad_enc {s : List UInt8} (h : (rdR sPlain (trim2 s) (decide (s.length % 4 = 0))).2 = 0) : encPad (rdR sPlain (trim2 s) (decide (s.length % 4 = 0))).1 = s := by
  obtain ⟨j, hj, hs⟩ := trim2_pads s
  have hl : s.length = (trim2 s).length + j := by conv => lhs; rw [hs]; simp
  have h1 := rd_enc (set := sPlain) (s := trim2 s) rfl (fun h => by have := of_decide_eq_true h; omega) h
  have h4 : s.length % 4 = 0 := by
    by_cases h5 : s.length % 4 = 0
    · exact h5
    · rw [decide_eq_false h5] at h
      unfold rdR at h
      cases hd : dec sPlain (0, 0, []) (trim2 s) with
      | none => rw [hd] at h; cases h
      | some st => rw [hd] at h; cases h
  have h6 : (trim2 s).length % 4 ≠ 1 := by omega
  unfold encPad padN
  rw [h1, rep61]
  conv => rhs; rw [hs]
  congr 2
  omega
theorem b16_len (s : List UInt8) : (b16R s).1.length ≤ s.length := by
  have := un16_len s
  unfold b16R
  split
  · exact Nat.zero_le _
  · split
    · exact Nat.zero_le _
    · show (un16 s).length ≤ _
      omega
theorem hv_get {c : UInt8} (h : sHex.contains c = true) : hxL (hv c) = c := by
  obtain ⟨h1, _⟩ := hex_ix h
  exact (ix_some h1).2
theorem hex_un16 : ∀ (s : List UInt8), isHex s → s.length % 2 = 0 → hex16 (un16 s) = s
  | [], _, _ => rfl
  | [_], _, h => by simp at h
  | a :: b :: r, hx, h => by
    have ha := hx a (by simp)
    have hb := hx b (by simp)
    have ha2 := (hex_ix ha).2
    have hb2 := (hex_ix hb).2
    have ih := hex_un16 r (fun x hxx => hx x (by simp [hxx])) (by simp at h; omega)
    show [hxL ((UInt8.ofNat (hv a * 16 + hv b)).toNat / 16), hxL ((UInt8.ofNat (hv a * 16 + hv b)).toNat % 16)] ++ hex16 (un16 r) = _
    rw [ih, o8 _ (by omega), show (hv a * 16 + hv b) / 16 = hv a by omega, show (hv a * 16 + hv b) % 16 = hv b by omega, hv_get ha, hv_get hb]
    rfl
theorem b16_enc {s : List UInt8} (h : (b16R s).2 = 0) : hex16 (b16R s).1 = s := by
  unfold b16R at h ⊢
  split at h
  · cases h
  · rename_i h1
    rw [if_neg h1]
    split at h
    · cases h
    · rename_i h2
      rw [if_neg h2]
      exact hex_un16 s (Classical.not_not.1 h1) (by omega)
theorem n10_bd (s : List UInt8) : -9223372036854775808 ≤ (n10R s).1 ∧ (n10R s).1 ≤ 9223372036854775807 := by
  by_cases hb : n10bad s
  · rw [n10R_bad hb]; exact ⟨by decide, by decide⟩
  · rcases n10_nosyn hb with ⟨v, hp⟩ | hp
    · have := Lib.parseIntB_bounds hp
      simp only [Nat.reduceSub, Nat.reducePow] at this
      rw [n10R_ok hb hp]
      show -9223372036854775808 ≤ v ∧ v ≤ 9223372036854775807
      omega
    · rw [n10R_range hb hp]; exact ⟨by decide, by decide⟩
theorem n10_enc {s : List UInt8} (h : (n10R s).2 = 0) : Lib.itoa (n10R s).1 = s := n10_itoa (n10R_inv h)
/-! ### A letter that is none -/
theorem bad64 (s : List UInt8) (r : Bool) : rdR sUrl (s ++ [10]) r = ([], 10) := rdR_none (dec_bad (c := 10) (by decide +kernel) (by simp))
theorem trimH (s : List UInt8) : ∃ t, Lib.trimSuffix (32 :: s) [61] = 32 :: t := by
  rcases trimSuf (32 :: s) with ⟨m, e, h⟩ | h
  · rw [h]
    cases m with
    | nil => cases e
    | cons x m => injection e with e1 _; exact ⟨m, by rw [e1]⟩
  · exact ⟨s, h⟩
theorem badPad (s : List UInt8) (r : Bool) : rdR sPlain (trim2 ([32] ++ s)) r = ([], 10) := by
  obtain ⟨t, ht⟩ := trimH s
  obtain ⟨t2, ht2⟩ := trimH t
  have : trim2 ([32] ++ s) = 32 :: t2 := by
    unfold trim2
    show Lib.trimSuffix (Lib.trimSuffix (32 :: s) [61]) [61] = _
    rw [ht, ht2]
  rw [this]
  exact rdR_none (dec_bad (c := 32) (by decide +kernel) (by simp))
theorem bad16 (s : List UInt8) : b16R (s ++ [10]) = ([], 10) := if_pos (fun h => by
  have := h 10 (by simp)
  exact absurd this (by decide +kernel))
theorem bad10 (s : List UInt8) : n10R (s ++ [10]) = (0, 13) := n10R_bad (n10_more s)
theorem g4_ent_14 : ent? Tryd.prog 14 = true := by kernel_rfl
theorem g4_ent_17 : ent? Tryd.prog 17 = true := by kernel_rfl
theorem g4_ent_10 : ent? Tryd.prog 10 = true := by kernel_rfl
theorem g4_ent_11 : ent? Tryd.prog 11 = true := by kernel_rfl
theorem g4_ent_7 : ent? Tryd.prog 7 = true := by kernel_rfl
theorem g4_ent_18 : ent? Tryd.prog 18 = true := by kernel_rfl
set_option maxHeartbeats 1000000 in
set_option maxRecDepth 100000 in
theorem lays_any (w : World) (hE : Env w) : Calls Tryd.prog 13 #[] w fun e w' => e = .returned (.bool true) ∧ Below w.heap.size w w' := by
 refine calls_start Tryd.func13 rfl rfl rfl (fun a F => ?_)
 have M : Mm w w [] := Mm.nil w
 refine wp_seq ?_
 refine wp_region_lit ?_
 refine list_val F (wn rfl) rfl rfl (.bool false) (ex_assign _ rfl _ rfl) ?_; clear F a; intro a F
 refine wpList_nil ?_
 replace F : Fr 56 a [(0, .bool false)] := F.keep ⟨rfl, trivial⟩
 refine then_n ?_
 refine wp_seq ?_
 refine wp_region_lit ?_
 refine list_do (wn rfl) (fun K hK => ?_)
 refine ow_call rfl rfl F 14 #[.string (ST.str ([45, 95, 56]))] (ex_call 14 _ _ rfl rfl g4_ent_14 _ (map1 rfl)) (bytes64_any [45, 95, 56] _ (by decide)) (fun e v hR => ?_)
 obtain ⟨A_8, c_8, he, O_8, hb⟩ := hR
 replace O_8 := O_8.low M.bel.size
 rw [lays_1] at he O_8
 refine ⟨.tuple #[.slice A_8 (([251, 255] : List UInt8).length) c_8, .int .i64 0], he, ?_⟩; clear he F a; intro a F
 refine hK _ _ ?_
 clear hK K
 replace M := M.below hb; clear hb; try clear w
 refine list_val F (wn rfl) rfl rfl (.tuple #[.slice A_8 (([251, 255] : List UInt8).length) c_8, .int .i64 0]) (ex_move _ rfl _ (F.e rfl)) ?_; clear F a; intro a F
 refine list_val F (wn rfl) rfl rfl (.slice A_8 (([251, 255] : List UInt8).length) c_8) (ex_extract _ _ rfl _ (F.e rfl) _ rfl) ?_; clear F a; intro a F
 refine list_val F (wn rfl) rfl rfl (.int .i64 0) (ex_extract _ _ rfl _ (F.e rfl) _ rfl) ?_; clear F a; intro a F
 refine list_val F (wn rfl) rfl rfl (.slice A_8 (([251, 255] : List UInt8).length) c_8) (ex_assign _ rfl _ (F.e rfl)) ?_; clear F a; intro a F
 refine list_val F (wn rfl) rfl rfl (.int .i64 0) (ex_assign _ rfl _ (F.e rfl)) ?_; clear F a; intro a F
 refine wpList_nil ?_
 replace F : Fr 56 a [(0, .bool false), (1, .slice A_8 (([251, 255] : List UInt8).length) c_8), (2, .int .i64 0)] := F.keep ⟨rfl, rfl, rfl, trivial⟩
 refine then_n ?_
 refine wp_seq ?_
 refine wp_region_lit ?_
 refine list_do (wn rfl) (fun K hK => ?_)
 refine ow_call rfl rfl F 17 #[.string (ST.str ([45, 52, 53]))] (ex_call 17 _ _ rfl rfl g4_ent_17 _ (map1 rfl)) (number10_any [45, 52, 53] _ (hE.below M.bel) (by decide)) (fun e u hR => ?_)
 obtain ⟨he, hb⟩ := hR
 rw [lays_2] at he
 refine ⟨.tuple #[.int .i64 (-45), .int .i64 0], he, ?_⟩; clear he F a; intro a F
 refine hK _ _ ?_
 clear hK K
 replace O_8 := O_8.below hb
 replace M := M.below hb; clear hb; try clear v
 refine list_val F (wn rfl) rfl rfl (.tuple #[.int .i64 (-45), .int .i64 0]) (ex_move _ rfl _ (F.e rfl)) ?_; clear F a; intro a F
 refine list_val F (wn rfl) rfl rfl (.int .i64 (-45)) (ex_extract _ _ rfl _ (F.e rfl) _ rfl) ?_; clear F a; intro a F
 refine list_val F (wn rfl) rfl rfl (.int .i64 0) (ex_extract _ _ rfl _ (F.e rfl) _ rfl) ?_; clear F a; intro a F
 refine list_val F (wn rfl) rfl rfl (.int .i64 (-45)) (ex_assign _ rfl _ (F.e rfl)) ?_; clear F a; intro a F
 refine list_val F (wn rfl) rfl rfl (.int .i64 0) (ex_assign _ rfl _ (F.e rfl)) ?_; clear F a; intro a F
 refine wpList_nil ?_
 replace F : Fr 56 a [(0, .bool false), (1, .slice A_8 (([251, 255] : List UInt8).length) c_8), (2, .int .i64 0), (3, .int .i64 (-45)), (4, .int .i64 0)] := F.keep ⟨rfl, rfl, rfl, rfl, rfl, trivial⟩
 refine then_n ?_
 refine wp_seq ?_
 refine wp_region_lit ?_
 refine list_do (wn rfl) (fun K hK => ?_)
 refine ow_call rfl rfl F 10 #[.int .u64 258, .int .i64 2] (ex_call 10 _ _ rfl rfl g4_ent_10 _ (map2 rfl rfl)) (lay_any 258 2 (by decide) (by decide) (by decide) _) (fun e v hR => ?_)
 obtain ⟨A_16, c_16, he, O_16, hb⟩ := hR
 replace O_16 := O_16.low M.bel.size
 rw [lays_3] at he O_16
 refine ⟨.tuple #[.slice A_16 (([1, 2] : List UInt8).length) c_16, .int .i64 0], he, ?_⟩; clear he F a; intro a F
 refine hK _ _ ?_
 clear hK K
 replace O_8 := O_8.below hb
 replace M := M.below hb; clear hb; try clear u
 refine list_val F (wn rfl) rfl rfl (.tuple #[.slice A_16 (([1, 2] : List UInt8).length) c_16, .int .i64 0]) (ex_move _ rfl _ (F.e rfl)) ?_; clear F a; intro a F
 refine list_val F (wn rfl) rfl rfl (.slice A_16 (([1, 2] : List UInt8).length) c_16) (ex_extract _ _ rfl _ (F.e rfl) _ rfl) ?_; clear F a; intro a F
 refine list_val F (wn rfl) rfl rfl (.int .i64 0) (ex_extract _ _ rfl _ (F.e rfl) _ rfl) ?_; clear F a; intro a F
 refine list_val F (wn rfl) rfl rfl (.slice A_16 (([1, 2] : List UInt8).length) c_16) (ex_assign _ rfl _ (F.e rfl)) ?_; clear F a; intro a F
 refine list_val F (wn rfl) rfl rfl (.int .i64 0) (ex_assign _ rfl _ (F.e rfl)) ?_; clear F a; intro a F
 refine wpList_nil ?_
 replace F : Fr 56 a [(0, .bool false), (1, .slice A_8 (([251, 255] : List UInt8).length) c_8), (2, .int .i64 0), (3, .int .i64 (-45)), (4, .int .i64 0), (5, .slice A_16 (([1, 2] : List UInt8).length) c_16), (6, .int .i64 0)] := F.keep ⟨rfl, rfl, rfl, rfl, rfl, rfl, rfl, trivial⟩
 refine then_n ?_
 refine wp_seq ?_
 refine wp_region_lit ?_
 refine list_val F (wn rfl) rfl rfl (.int .i64 0) (ex_move _ rfl _ (F.e rfl)) ?_; clear F a; intro a F
 refine list_do (wn rfl) (fun K hK => ?_)
 refine ow_call rfl rfl F 11 #[.int .i64 0] (ex_call 11 _ _ rfl rfl g4_ent_11 _ (map1 (F.e rfl))) (num_any 0 _) (fun e u hR => ?_)
 obtain ⟨he, hb⟩ := hR
 refine ⟨.int .i64 0, he, ?_⟩; clear he F a; intro a F
 refine hK _ _ ?_
 clear hK K
 replace O_8 := O_8.below hb
 replace O_16 := O_16.below hb
 replace M := M.below hb; clear hb; try clear v
 refine list_val F (wn rfl) rfl rfl (.bool true) (ex_bin .eql _ _ _ _ rfl .i64 _ _ (F.e rfl) rfl _ (b_eql (by decide))) ?_; clear F a; intro a F
 refine list_val F (wn rfl) rfl rfl (.bool true) (ex_move _ rfl _ (F.e rfl)) ?_; clear F a; intro a F
 refine list_val F (F.wants 22 true rfl (by kernel_rfl) rfl true rfl) rfl rfl (.slice A_8 (([251, 255] : List UInt8).length) c_8) (ex_move _ rfl _ (F.e rfl)) ?_; clear F a; intro a F
 refine list_val F (F.wants 22 true rfl (by kernel_rfl) rfl true rfl) rfl rfl (.string (ST.str ([251, 255] : List UInt8))) (ST.ex_tos 28 9 _ rfl 5 Tryd.underlying28 un5 un9 A_8 (([251, 255] : List UInt8).length) c_8 ([251, 255] : List UInt8) (F.e rfl) (O_8.rd.1)) ?_; clear F a; intro a F
 refine list_val F (F.wants 22 true rfl (by kernel_rfl) rfl true rfl) rfl rfl (.bool true) (ST.ex_eqls _ _ _ _ rfl ([251, 255] : List UInt8) ([251, 255]) (F.e rfl) rfl true (decide_eq_true rfl)) ?_; clear F a; intro a F
 refine list_val F (wn rfl) rfl rfl (.bool true) (ex_pick_t _ _ _ rfl (F.e rfl) _ (F.e rfl)) ?_; clear F a; intro a F
 refine list_val F (wn rfl) rfl rfl (.bool true) (ex_move _ rfl _ (F.e rfl)) ?_; clear F a; intro a F
 refine list_val F (F.wants 27 true rfl (by kernel_rfl) rfl true rfl) rfl rfl (.slice A_8 (([251, 255] : List UInt8).length) c_8) (ex_move _ rfl _ (F.e rfl)) ?_; clear F a; intro a F
 refine list_do (F.wants 27 true rfl (by kernel_rfl) rfl true rfl) (fun K hK => ?_)
 refine ow_call rfl rfl F 7 #[.slice A_8 (([251, 255] : List UInt8).length) c_8] (ex_call 7 _ _ rfl rfl g4_ent_7 _ (map1 (F.e rfl))) (text64_any [251, 255] _ _ _ O_8.rd.1 O_8.rd.2.2 (by decide)) (fun e v hR => ?_)
 obtain ⟨he, hb⟩ := hR
 rw [lays_4] at he
 refine ⟨.string (ST.str ([45, 95, 56])), he, ?_⟩; clear he F a; intro a F
 refine hK _ _ ?_
 clear hK K
 replace O_8 := O_8.below hb
 replace O_16 := O_16.below hb
 replace M := M.below hb; clear hb; try clear u
 refine list_val F (F.wants 27 true rfl (by kernel_rfl) rfl true rfl) rfl rfl (.bool true) (ST.ex_eqls _ _ _ _ rfl ([45, 95, 56]) ([45, 95, 56]) (F.e rfl) rfl true (decide_eq_true rfl)) ?_; clear F a; intro a F
 refine list_val F (wn rfl) rfl rfl (.bool true) (ex_pick_t _ _ _ rfl (F.e rfl) _ (F.e rfl)) ?_; clear F a; intro a F
 refine list_val F (wn rfl) rfl rfl (.bool true) (ex_move _ rfl _ (F.e rfl)) ?_; clear F a; intro a F
 refine list_val F (F.wants 32 true rfl (by kernel_rfl) rfl true rfl) rfl rfl (.int .i64 0) (ex_move _ rfl _ (F.e rfl)) ?_; clear F a; intro a F
 refine list_do (F.wants 32 true rfl (by kernel_rfl) rfl true rfl) (fun K hK => ?_)
 refine ow_call rfl rfl F 11 #[.int .i64 0] (ex_call 11 _ _ rfl rfl g4_ent_11 _ (map1 (F.e rfl))) (num_any 0 _) (fun e u hR => ?_)
 obtain ⟨he, hb⟩ := hR
 refine ⟨.int .i64 0, he, ?_⟩; clear he F a; intro a F
 refine hK _ _ ?_
 clear hK K
 replace O_8 := O_8.below hb
 replace O_16 := O_16.below hb
 replace M := M.below hb; clear hb; try clear v
 refine list_val F (F.wants 32 true rfl (by kernel_rfl) rfl true rfl) rfl rfl (.bool true) (ex_bin .eql _ _ _ _ rfl .i64 _ _ (F.e rfl) rfl _ (b_eql (by decide))) ?_; clear F a; intro a F
 refine list_val F (wn rfl) rfl rfl (.bool true) (ex_pick_t _ _ _ rfl (F.e rfl) _ (F.e rfl)) ?_; clear F a; intro a F
 refine list_val F (wn rfl) rfl rfl (.bool true) (ex_move _ rfl _ (F.e rfl)) ?_; clear F a; intro a F
 refine list_val F (F.wants 37 true rfl (by kernel_rfl) rfl true rfl) rfl rfl (.int .i64 (-45)) (ex_move _ rfl _ (F.e rfl)) ?_; clear F a; intro a F
 refine list_val F (F.wants 37 true rfl (by kernel_rfl) rfl true rfl) rfl rfl (.bool true) (ex_bin .eql _ _ _ _ rfl .i64 _ _ (F.e rfl) rfl _ (b_eql (by decide))) ?_; clear F a; intro a F
 refine list_val F (wn rfl) rfl rfl (.bool true) (ex_pick_t _ _ _ rfl (F.e rfl) _ (F.e rfl)) ?_; clear F a; intro a F
 refine list_val F (wn rfl) rfl rfl (.bool true) (ex_move _ rfl _ (F.e rfl)) ?_; clear F a; intro a F
 refine list_val F (F.wants 41 true rfl (by kernel_rfl) rfl true rfl) rfl rfl (.int .i64 (-45)) (ex_move _ rfl _ (F.e rfl)) ?_; clear F a; intro a F
 refine list_do (F.wants 41 true rfl (by kernel_rfl) rfl true rfl) (fun K hK => ?_)
 refine ow_call rfl rfl F 18 #[.int .i64 (-45)] (ex_call 18 _ _ rfl rfl g4_ent_18 _ (map1 (F.e rfl))) (text10_any (-45) (by decide) (by decide) _ (hE.below M.bel)) (fun e v hR => ?_)
 obtain ⟨he, hb⟩ := hR
 rw [itoa45] at he
 refine ⟨.string (ST.str ([45, 52, 53])), he, ?_⟩; clear he F a; intro a F
 refine hK _ _ ?_
 clear hK K
 replace O_8 := O_8.below hb
 replace O_16 := O_16.below hb
 replace M := M.below hb; clear hb; try clear u
 refine list_val F (F.wants 41 true rfl (by kernel_rfl) rfl true rfl) rfl rfl (.bool true) (ST.ex_eqls _ _ _ _ rfl ([45, 52, 53]) ([45, 52, 53]) (F.e rfl) rfl true (decide_eq_true rfl)) ?_; clear F a; intro a F
 refine list_val F (wn rfl) rfl rfl (.bool true) (ex_pick_t _ _ _ rfl (F.e rfl) _ (F.e rfl)) ?_; clear F a; intro a F
 refine list_val F (wn rfl) rfl rfl (.bool true) (ex_move _ rfl _ (F.e rfl)) ?_; clear F a; intro a F
 refine list_val F (F.wants 46 true rfl (by kernel_rfl) rfl true rfl) rfl rfl (.int .i64 0) (ex_move _ rfl _ (F.e rfl)) ?_; clear F a; intro a F
 refine list_do (F.wants 46 true rfl (by kernel_rfl) rfl true rfl) (fun K hK => ?_)
 refine ow_call rfl rfl F 11 #[.int .i64 0] (ex_call 11 _ _ rfl rfl g4_ent_11 _ (map1 (F.e rfl))) (num_any 0 _) (fun e u hR => ?_)
 obtain ⟨he, hb⟩ := hR
 refine ⟨.int .i64 0, he, ?_⟩; clear he F a; intro a F
 refine hK _ _ ?_
 clear hK K
 replace O_8 := O_8.below hb
 replace O_16 := O_16.below hb
 replace M := M.below hb; clear hb; try clear v
 refine list_val F (F.wants 46 true rfl (by kernel_rfl) rfl true rfl) rfl rfl (.bool true) (ex_bin .eql _ _ _ _ rfl .i64 _ _ (F.e rfl) rfl _ (b_eql (by decide))) ?_; clear F a; intro a F
 refine list_val F (wn rfl) rfl rfl (.bool true) (ex_pick_t _ _ _ rfl (F.e rfl) _ (F.e rfl)) ?_; clear F a; intro a F
 refine list_val F (wn rfl) rfl rfl (.bool true) (ex_move _ rfl _ (F.e rfl)) ?_; clear F a; intro a F
 refine list_val F (F.wants 51 true rfl (by kernel_rfl) rfl true rfl) rfl rfl (.slice A_16 (([1, 2] : List UInt8).length) c_16) (ex_move _ rfl _ (F.e rfl)) ?_; clear F a; intro a F
 refine list_val F (F.wants 51 true rfl (by kernel_rfl) rfl true rfl) rfl rfl (.string (ST.str ([1, 2] : List UInt8))) (ST.ex_tos 28 9 _ rfl 5 Tryd.underlying28 un5 un9 A_16 (([1, 2] : List UInt8).length) c_16 ([1, 2] : List UInt8) (F.e rfl) (O_16.rd.1)) ?_; clear F a; intro a F
 refine list_val F (F.wants 51 true rfl (by kernel_rfl) rfl true rfl) rfl rfl (.bool true) (ST.ex_eqls _ _ _ _ rfl ([1, 2] : List UInt8) ([1, 2]) (F.e rfl) rfl true (decide_eq_true rfl)) ?_; clear F a; intro a F
 refine list_val F (wn rfl) rfl rfl (.bool true) (ex_pick_t _ _ _ rfl (F.e rfl) _ (F.e rfl)) ?_; clear F a; intro a F
 refine list_val F (wn rfl) rfl rfl (.bool true) (ex_assign _ rfl _ (F.e rfl)) ?_; clear F a; intro a F
 refine wpList_nil ?_
 replace F : Fr 56 a [(0, .bool true), (1, .slice A_8 (([251, 255] : List UInt8).length) c_8), (2, .int .i64 0), (3, .int .i64 (-45)), (4, .int .i64 0), (5, .slice A_16 (([1, 2] : List UInt8).length) c_16), (6, .int .i64 0)] := F.keep ⟨rfl, rfl, rfl, rfl, rfl, rfl, rfl, trivial⟩
 refine then_n ?_
 refine wp_ret ?_
 exact ret_tmp F rfl rfl ⟨rfl, M.bel⟩
theorem g4_sl_23_1 : sl? Tryd.prog 23 1 = true := by kernel_rfl
theorem g4_one_9 : one? Tryd.prog 9 = true := by kernel_rfl
theorem g4_ent_13 : ent? Tryd.prog 13 = true := by kernel_rfl
theorem g4_ent_15 : ent? Tryd.prog 15 = true := by kernel_rfl
theorem g4_ent_16 : ent? Tryd.prog 16 = true := by kernel_rfl
theorem g4_ent_8 : ent? Tryd.prog 8 = true := by kernel_rfl
theorem g4_ent_6 : ent? Tryd.prog 6 = true := by kernel_rfl
set_option maxHeartbeats 1000000 in
set_option maxRecDepth 100000 in
theorem one_any (ls : List (List UInt8)) (A : Option Addr) (c : Nat) (w : World) (hE : Env w) (hr : kT.C w A ls.length ls) (hz : ∀ l ∈ ls, l.length ≤ 140737488351232) (hmx : ls.length ≤ 4611686018427387904) :
    Calls Tryd.prog 4 #[.slice A ls.length c] w fun e w' => e = .returned (.bool true) ∧ Below w.heap.size w w' := by
 refine calls_start Tryd.func4 rfl rfl rfl (fun a F => ?_)
 have M : Mm w w [] := Mm.nil w
 refine wp_seq ?_
 refine wp_region_lit ?_
 refine list_val F (wn rfl) rfl rfl (.bool false) (ex_assign _ rfl _ rfl) ?_; clear F a; intro a F
 refine wpList_nil ?_
 replace F : Fr 139 a [(0, .slice A ls.length c), (2, .bool false)] := F.keep ⟨rfl, rfl, trivial⟩
 refine then_n ?_
 refine wp_seq ?_
 refine wp_region_lit ?_
 refine list_val F (wn rfl) rfl rfl (.int .i64 0) (ex_assign _ rfl _ rfl) ?_; clear F a; intro a F
 refine wpList_nil ?_
 replace F : Fr 139 a [(0, .slice A ls.length c), (2, .bool false), (3, .int .i64 0)] := F.keep ⟨rfl, rfl, rfl, trivial⟩
 refine then_n ?_
 refine wp_seq ?_
 refine wp_seq ?_
 refine wp_region_lit ?_
 refine list_val F (wn rfl) rfl rfl (.int .i64 0) (ex_assign _ rfl _ rfl) ?_; clear F a; intro a F
 refine wpList_nil ?_
 replace F : Fr 139 a [(0, .slice A ls.length c), (2, .bool false), (3, .int .i64 0), (4, .int .i64 0)] := F.keep ⟨rfl, rfl, rfl, rfl, trivial⟩
 refine then_n ?_
 refine wp_block ?_
 refine wp_loopN (fun mq ar wr => ∃ (i : Nat), ∃ (al : Nat), Fr 139 ar [(0, .slice A ls.length c), (2, .bool false), (3, .int .i64 ((al : Nat) : Int)), (4, .int .i64 ((i : Nat) : Int))] ∧ Mm w wr [] ∧ i ≤ ls.length ∧ al ≤ 524288 ∧ mq + i = ls.length) ls.length ?_ ?_
 ·
  exact ⟨0, 0, F.keep ⟨rfl, rfl, rfl, rfl, trivial⟩, M, (Nat.zero_le _), (by decide), (by omega)⟩
 clear F M a
 rintro mq a v ⟨i, al, F, M, hi, hal, hq⟩; try clear w
 by_cases hin : i < ls.length
 ·
  obtain ⟨s, hs⟩ : ∃ x, ls[i]? = some x := ⟨_, List.getElem?_eq_getElem (by omega)⟩
  obtain ⟨ad, hAs, zs⟩ := C_ix (enc := sc) (m := 1) (hl := sc_len) (h1 := sc_one) hr hs
  subst hAs
  have hsz := hz s (List.mem_of_getElem? hs)
  refine wp_seq ?_
  refine wp_seq ?_
  refine wp_region_lit ?_
  refine list_val F (wn rfl) rfl rfl (.int .i64 ((i : Nat) : Int)) (ex_move _ rfl _ (F.e rfl)) ?_; clear F a; intro a F
  refine list_val F (wn rfl) rfl rfl (.slice (some ad) ls.length c) (ex_move _ rfl _ (F.e rfl)) ?_; clear F a; intro a F
  refine list_val F (wn rfl) rfl rfl (.int .i64 ((ls.length : Nat) : Int)) (ex_len _ _ rfl 1 g4_sl_23_1 _ _ _ (F.e rfl)) ?_; clear F a; intro a F
  refine list_val F (wn rfl) rfl rfl (.bool true) (ex_bin .lss _ _ _ _ rfl .i64 _ _ (F.e rfl) (F.e rfl) _ (b_lss (decide_eq_true (by omega)))) ?_; clear F a; intro a F
  refine wpList_nil ?_
  replace F : Fr 139 a [(0, .slice (some ad) ls.length c), (2, .bool false), (3, .int .i64 ((al : Nat) : Int)), (4, .int .i64 ((i : Nat) : Int)), (18, .bool true)] := F.keep ⟨rfl, rfl, rfl, rfl, rfl, trivial⟩
  refine then_n ?_
  refine wp_cond_true (F.e rfl) ?_
  refine wp_skip ?_
  refine then_n ?_
  refine wp_seq ?_
  refine wp_block ?_
  refine wp_seq ?_
  refine wp_region_lit ?_
  refine list_val F (wn rfl) rfl rfl (.int .i64 ((al : Nat) : Int)) (ex_move _ rfl _ (F.e rfl)) ?_; clear F a; intro a F
  refine list_val F (wn rfl) rfl rfl (.slice (some ad) ls.length c) (ex_move _ rfl _ (F.e rfl)) ?_; clear F a; intro a F
  refine list_val F (wn rfl) rfl rfl (.int .i64 ((i : Nat) : Int)) (ex_move _ rfl _ (F.e rfl)) ?_; clear F a; intro a F
  refine list_val F (wn rfl) rfl rfl (.pointer (some (ad.add (i * 1)))) (ex_ix _ _ _ rfl 1 g4_sl_23_1 ad _ _ (F.e rfl) .i64 _ (F.e rfl) i rfl (by omega) (ad.add (i * 1)) rfl) ?_; clear F a; intro a F
  refine list_val F (wn rfl) rfl rfl (.string (ST.str s)) (ex_load _ _ rfl _ (F.e rfl) _ (lv1 g4_one_9 ((zs.below M.bel).cell 0 _ rfl))) ?_; clear F a; intro a F
  refine list_val F (wn rfl) rfl rfl (.int .i64 ((s.length : Nat) : Int)) (ST.ex_lens _ 9 rfl un9 s (F.e rfl)) ?_; clear F a; intro a F
  refine list_val F (wn rfl) rfl rfl (.int .i64 ((al + s.length : Nat) : Int)) (ex_bin .add _ _ _ _ rfl .i64 _ _ (F.e rfl) (F.e rfl) _ (b_add ((w_i64 (by omega) (by omega)).trans (by omega)))) ?_; clear F a; intro a F
  refine list_val F (wn rfl) rfl rfl (.int .i64 ((al + s.length + 1 : Nat) : Int)) (ex_bin .add _ _ _ _ rfl .i64 _ _ (F.e rfl) rfl _ (b_add ((w_i64 (by omega) (by omega)).trans (by omega)))) ?_; clear F a; intro a F
  refine list_val F (wn rfl) rfl rfl (.int .i64 ((al + s.length + 1 : Nat) : Int)) (ex_assign _ rfl _ (F.e rfl)) ?_; clear F a; intro a F
  refine wpList_nil ?_
  replace F : Fr 139 a [(0, .slice (some ad) ls.length c), (2, .bool false), (3, .int .i64 ((al + s.length + 1 : Nat) : Int)), (4, .int .i64 ((i : Nat) : Int)), (18, .bool true)] := F.keep ⟨rfl, rfl, rfl, rfl, rfl, trivial⟩
  refine then_n ?_
  refine wp_seq ?_
  refine wp_seq ?_
  by_cases hbig : 524288 < al + s.length + 1
  ·
   refine wp_region_lit ?_
   refine list_val F (wn rfl) rfl rfl (.int .i64 ((al + s.length + 1 : Nat) : Int)) (ex_move _ rfl _ (F.e rfl)) ?_; clear F a; intro a F
   refine list_val F (wn rfl) rfl rfl (.bool true) (ex_bin .gtr _ _ _ _ rfl .i64 _ _ (F.e rfl) rfl _ (b_gtr (decide_eq_true (by omega)))) ?_; clear F a; intro a F
   refine wpList_nil ?_
   replace F : Fr 139 a [(0, .slice (some ad) ls.length c), (2, .bool false), (3, .int .i64 ((al + s.length + 1 : Nat) : Int)), (4, .int .i64 ((i : Nat) : Int)), (18, .bool true), (30, .bool true)] := F.keep ⟨rfl, rfl, rfl, rfl, rfl, rfl, trivial⟩
   refine then_n ?_
   refine wp_cond_true (F.e rfl) ?_
   refine wp_exit ?_
   refine then_x ?_
   refine in_miss rfl ?_
   refine then_x ?_
   refine then_x ?_
   refine in_hit ?_
   refine then_n ?_
   refine wp_seq ?_
   refine wp_region_lit ?_
   refine list_do (wn rfl) (fun K hK => ?_)
   refine ow_call rfl rfl F 13 #[] (ex_call 13 _ _ rfl rfl g4_ent_13 _ (map0)) (lays_any _ (hE.below M.bel)) (fun e u hR => ?_)
   obtain ⟨he, hb⟩ := hR
   refine ⟨.bool true, he, ?_⟩; clear he F a; intro a F
   refine hK _ _ ?_
   clear hK K
   replace M := M.below hb; clear hb; try clear v
   refine list_val F (wn rfl) rfl rfl (.bool true) (ex_assign _ rfl _ (F.e rfl)) ?_; clear F a; intro a F
   refine wpList_nil ?_
   replace F : Fr 139 a [(0, .slice (some ad) ls.length c), (2, .bool true), (3, .int .i64 ((al + s.length + 1 : Nat) : Int)), (4, .int .i64 ((i : Nat) : Int)), (18, .bool true), (30, .bool true)] := F.keep ⟨rfl, rfl, rfl, rfl, rfl, rfl, trivial⟩
   refine then_n ?_
   refine wp_ret ?_
   exact ret_tmp F rfl rfl ⟨rfl, M.bel⟩
  have hsl : s.length ≤ 524287 := by omega
  have hl64 := rd_len sUrl s rfl (decide (s.length % 4 ≠ 1))
  have hlP := rd_len sPlain (trim2 s) rfl (decide (s.length % 4 = 0))
  have htl := trim2_le s
  have hl16 := b16_len s
  have hbd := n10_bd s
  refine wp_region_lit ?_
  refine list_val F (wn rfl) rfl rfl (.int .i64 ((al + s.length + 1 : Nat) : Int)) (ex_move _ rfl _ (F.e rfl)) ?_; clear F a; intro a F
  refine list_val F (wn rfl) rfl rfl (.bool false) (ex_bin .gtr _ _ _ _ rfl .i64 _ _ (F.e rfl) rfl _ (b_gtr (decide_eq_false (by omega)))) ?_; clear F a; intro a F
  refine wpList_nil ?_
  replace F : Fr 139 a [(0, .slice (some ad) ls.length c), (2, .bool false), (3, .int .i64 ((al + s.length + 1 : Nat) : Int)), (4, .int .i64 ((i : Nat) : Int)), (18, .bool true), (30, .bool false)] := F.keep ⟨rfl, rfl, rfl, rfl, rfl, rfl, trivial⟩
  refine then_n ?_
  refine wp_cond_false (F.e rfl) ?_
  refine wp_skip ?_
  refine then_n ?_
  refine wp_seq ?_
  refine wp_region_lit ?_
  refine list_val F (wn rfl) rfl rfl (.slice (some ad) ls.length c) (ex_move _ rfl _ (F.e rfl)) ?_; clear F a; intro a F
  refine list_val F (wn rfl) rfl rfl (.int .i64 ((i : Nat) : Int)) (ex_move _ rfl _ (F.e rfl)) ?_; clear F a; intro a F
  refine list_val F (wn rfl) rfl rfl (.pointer (some (ad.add (i * 1)))) (ex_ix _ _ _ rfl 1 g4_sl_23_1 ad _ _ (F.e rfl) .i64 _ (F.e rfl) i rfl (by omega) (ad.add (i * 1)) rfl) ?_; clear F a; intro a F
  refine list_val F (wn rfl) rfl rfl (.string (ST.str s)) (ex_load _ _ rfl _ (F.e rfl) _ (lv1 g4_one_9 ((zs.below M.bel).cell 0 _ rfl))) ?_; clear F a; intro a F
  refine list_val F (wn rfl) rfl rfl (.string (ST.str s)) (ex_assign _ rfl _ (F.e rfl)) ?_; clear F a; intro a F
  refine wpList_nil ?_
  replace F : Fr 139 a [(0, .slice (some ad) ls.length c), (2, .bool false), (3, .int .i64 ((al + s.length + 1 : Nat) : Int)), (4, .int .i64 ((i : Nat) : Int)), (5, .string (ST.str s)), (18, .bool true), (30, .bool false)] := F.keep ⟨rfl, rfl, rfl, rfl, rfl, rfl, rfl, trivial⟩
  refine then_n ?_
  refine wp_seq ?_
  refine wp_region_lit ?_
  refine list_val F (wn rfl) rfl rfl (.string (ST.str s)) (ex_move _ rfl _ (F.e rfl)) ?_; clear F a; intro a F
  refine list_do (wn rfl) (fun K hK => ?_)
  refine ow_call rfl rfl F 14 #[.string (ST.str s)] (ex_call 14 _ _ rfl rfl g4_ent_14 _ (map1 (F.e rfl))) (bytes64_any s _ (by omega)) (fun e u hR => ?_)
  obtain ⟨A_37, c_37, he, O_37, hb⟩ := hR
  replace O_37 := O_37.low M.bel.size
  refine ⟨.tuple #[.slice A_37 (((rdR sUrl s (decide (s.length % 4 ≠ 1))).1).length) c_37, .int .i64 ((rdR sUrl s (decide (s.length % 4 ≠ 1))).2)], he, ?_⟩; clear he F a; intro a F
  refine hK _ _ ?_
  clear hK K
  replace M := M.below hb; clear hb; try clear v
  refine list_val F (wn rfl) rfl rfl (.tuple #[.slice A_37 (((rdR sUrl s (decide (s.length % 4 ≠ 1))).1).length) c_37, .int .i64 ((rdR sUrl s (decide (s.length % 4 ≠ 1))).2)]) (ex_move _ rfl _ (F.e rfl)) ?_; clear F a; intro a F
  refine list_val F (wn rfl) rfl rfl (.slice A_37 (((rdR sUrl s (decide (s.length % 4 ≠ 1))).1).length) c_37) (ex_extract _ _ rfl _ (F.e rfl) _ rfl) ?_; clear F a; intro a F
  refine list_val F (wn rfl) rfl rfl (.int .i64 ((rdR sUrl s (decide (s.length % 4 ≠ 1))).2)) (ex_extract _ _ rfl _ (F.e rfl) _ rfl) ?_; clear F a; intro a F
  refine list_val F (wn rfl) rfl rfl (.slice A_37 (((rdR sUrl s (decide (s.length % 4 ≠ 1))).1).length) c_37) (ex_assign _ rfl _ (F.e rfl)) ?_; clear F a; intro a F
  refine list_val F (wn rfl) rfl rfl (.int .i64 ((rdR sUrl s (decide (s.length % 4 ≠ 1))).2)) (ex_assign _ rfl _ (F.e rfl)) ?_; clear F a; intro a F
  refine wpList_nil ?_
  replace F : Fr 139 a [(0, .slice (some ad) ls.length c), (2, .bool false), (3, .int .i64 ((al + s.length + 1 : Nat) : Int)), (4, .int .i64 ((i : Nat) : Int)), (5, .string (ST.str s)), (6, .slice A_37 (((rdR sUrl s (decide (s.length % 4 ≠ 1))).1).length) c_37), (7, .int .i64 ((rdR sUrl s (decide (s.length % 4 ≠ 1))).2)), (18, .bool true), (30, .bool false)] := F.keep ⟨rfl, rfl, rfl, rfl, rfl, rfl, rfl, rfl, rfl, trivial⟩
  refine then_n ?_
  refine wp_seq ?_
  refine wp_region_lit ?_
  refine list_val F (wn rfl) rfl rfl (.string (ST.str s)) (ex_move _ rfl _ (F.e rfl)) ?_; clear F a; intro a F
  refine list_do (wn rfl) (fun K hK => ?_)
  refine ow_call rfl rfl F 15 #[.string (ST.str s)] (ex_call 15 _ _ rfl rfl g4_ent_15 _ (map1 (F.e rfl))) (bytesPad_any s _ (by omega)) (fun e v hR => ?_)
  obtain ⟨A_42, c_42, he, O_42, hb⟩ := hR
  replace O_42 := O_42.low M.bel.size
  refine ⟨.tuple #[.slice A_42 (((rdR sPlain (trim2 s) (decide (s.length % 4 = 0))).1).length) c_42, .int .i64 ((rdR sPlain (trim2 s) (decide (s.length % 4 = 0))).2)], he, ?_⟩; clear he F a; intro a F
  refine hK _ _ ?_
  clear hK K
  replace O_37 := O_37.below hb
  replace M := M.below hb; clear hb; try clear u
  refine list_val F (wn rfl) rfl rfl (.tuple #[.slice A_42 (((rdR sPlain (trim2 s) (decide (s.length % 4 = 0))).1).length) c_42, .int .i64 ((rdR sPlain (trim2 s) (decide (s.length % 4 = 0))).2)]) (ex_move _ rfl _ (F.e rfl)) ?_; clear F a; intro a F
  refine list_val F (wn rfl) rfl rfl (.slice A_42 (((rdR sPlain (trim2 s) (decide (s.length % 4 = 0))).1).length) c_42) (ex_extract _ _ rfl _ (F.e rfl) _ rfl) ?_; clear F a; intro a F
  refine list_val F (wn rfl) rfl rfl (.int .i64 ((rdR sPlain (trim2 s) (decide (s.length % 4 = 0))).2)) (ex_extract _ _ rfl _ (F.e rfl) _ rfl) ?_; clear F a; intro a F
  refine list_val F (wn rfl) rfl rfl (.slice A_42 (((rdR sPlain (trim2 s) (decide (s.length % 4 = 0))).1).length) c_42) (ex_assign _ rfl _ (F.e rfl)) ?_; clear F a; intro a F
  refine list_val F (wn rfl) rfl rfl (.int .i64 ((rdR sPlain (trim2 s) (decide (s.length % 4 = 0))).2)) (ex_assign _ rfl _ (F.e rfl)) ?_; clear F a; intro a F
  refine wpList_nil ?_
  replace F : Fr 139 a [(0, .slice (some ad) ls.length c), (2, .bool false), (3, .int .i64 ((al + s.length + 1 : Nat) : Int)), (4, .int .i64 ((i : Nat) : Int)), (5, .string (ST.str s)), (6, .slice A_37 (((rdR sUrl s (decide (s.length % 4 ≠ 1))).1).length) c_37), (7, .int .i64 ((rdR sUrl s (decide (s.length % 4 ≠ 1))).2)), (8, .slice A_42 (((rdR sPlain (trim2 s) (decide (s.length % 4 = 0))).1).length) c_42), (9, .int .i64 ((rdR sPlain (trim2 s) (decide (s.length % 4 = 0))).2)), (18, .bool true), (30, .bool false)] := F.keep ⟨rfl, rfl, rfl, rfl, rfl, rfl, rfl, rfl, rfl, rfl, rfl, trivial⟩
  refine then_n ?_
  refine wp_seq ?_
  refine wp_region_lit ?_
  refine list_val F (wn rfl) rfl rfl (.string (ST.str s)) (ex_move _ rfl _ (F.e rfl)) ?_; clear F a; intro a F
  refine list_do (wn rfl) (fun K hK => ?_)
  refine ow_call rfl rfl F 16 #[.string (ST.str s)] (ex_call 16 _ _ rfl rfl g4_ent_16 _ (map1 (F.e rfl))) (bytes16_any s _ (by omega)) (fun e u hR => ?_)
  obtain ⟨A_47, c_47, he, O_47, hb⟩ := hR
  replace O_47 := O_47.low M.bel.size
  refine ⟨.tuple #[.slice A_47 (((b16R s).1).length) c_47, .int .i64 ((b16R s).2)], he, ?_⟩; clear he F a; intro a F
  refine hK _ _ ?_
  clear hK K
  replace O_37 := O_37.below hb
  replace O_42 := O_42.below hb
  replace M := M.below hb; clear hb; try clear v
  refine list_val F (wn rfl) rfl rfl (.tuple #[.slice A_47 (((b16R s).1).length) c_47, .int .i64 ((b16R s).2)]) (ex_move _ rfl _ (F.e rfl)) ?_; clear F a; intro a F
  refine list_val F (wn rfl) rfl rfl (.slice A_47 (((b16R s).1).length) c_47) (ex_extract _ _ rfl _ (F.e rfl) _ rfl) ?_; clear F a; intro a F
  refine list_val F (wn rfl) rfl rfl (.int .i64 ((b16R s).2)) (ex_extract _ _ rfl _ (F.e rfl) _ rfl) ?_; clear F a; intro a F
  refine list_val F (wn rfl) rfl rfl (.slice A_47 (((b16R s).1).length) c_47) (ex_assign _ rfl _ (F.e rfl)) ?_; clear F a; intro a F
  refine list_val F (wn rfl) rfl rfl (.int .i64 ((b16R s).2)) (ex_assign _ rfl _ (F.e rfl)) ?_; clear F a; intro a F
  refine wpList_nil ?_
  replace F : Fr 139 a [(0, .slice (some ad) ls.length c), (2, .bool false), (3, .int .i64 ((al + s.length + 1 : Nat) : Int)), (4, .int .i64 ((i : Nat) : Int)), (5, .string (ST.str s)), (6, .slice A_37 (((rdR sUrl s (decide (s.length % 4 ≠ 1))).1).length) c_37), (7, .int .i64 ((rdR sUrl s (decide (s.length % 4 ≠ 1))).2)), (8, .slice A_42 (((rdR sPlain (trim2 s) (decide (s.length % 4 = 0))).1).length) c_42), (9, .int .i64 ((rdR sPlain (trim2 s) (decide (s.length % 4 = 0))).2)), (10, .slice A_47 (((b16R s).1).length) c_47), (11, .int .i64 ((b16R s).2)), (18, .bool true), (30, .bool false)] := F.keep ⟨rfl, rfl, rfl, rfl, rfl, rfl, rfl, rfl, rfl, rfl, rfl, rfl, rfl, trivial⟩
  refine then_n ?_
  refine wp_seq ?_
  refine wp_region_lit ?_
  refine list_val F (wn rfl) rfl rfl (.string (ST.str s)) (ex_move _ rfl _ (F.e rfl)) ?_; clear F a; intro a F
  refine list_do (wn rfl) (fun K hK => ?_)
  refine ow_call rfl rfl F 17 #[.string (ST.str s)] (ex_call 17 _ _ rfl rfl g4_ent_17 _ (map1 (F.e rfl))) (number10_any s _ (hE.below M.bel) (by omega)) (fun e v hR => ?_)
  obtain ⟨he, hb⟩ := hR
  refine ⟨.tuple #[.int .i64 ((n10R s).1), .int .i64 ((n10R s).2)], he, ?_⟩; clear he F a; intro a F
  refine hK _ _ ?_
  clear hK K
  replace O_37 := O_37.below hb
  replace O_42 := O_42.below hb
  replace O_47 := O_47.below hb
  replace M := M.below hb; clear hb; try clear u
  refine list_val F (wn rfl) rfl rfl (.tuple #[.int .i64 ((n10R s).1), .int .i64 ((n10R s).2)]) (ex_move _ rfl _ (F.e rfl)) ?_; clear F a; intro a F
  refine list_val F (wn rfl) rfl rfl (.int .i64 ((n10R s).1)) (ex_extract _ _ rfl _ (F.e rfl) _ rfl) ?_; clear F a; intro a F
  refine list_val F (wn rfl) rfl rfl (.int .i64 ((n10R s).2)) (ex_extract _ _ rfl _ (F.e rfl) _ rfl) ?_; clear F a; intro a F
  refine list_val F (wn rfl) rfl rfl (.int .i64 ((n10R s).1)) (ex_assign _ rfl _ (F.e rfl)) ?_; clear F a; intro a F
  refine list_val F (wn rfl) rfl rfl (.int .i64 ((n10R s).2)) (ex_assign _ rfl _ (F.e rfl)) ?_; clear F a; intro a F
  refine wpList_nil ?_
  replace F : Fr 139 a [(0, .slice (some ad) ls.length c), (2, .bool false), (3, .int .i64 ((al + s.length + 1 : Nat) : Int)), (4, .int .i64 ((i : Nat) : Int)), (5, .string (ST.str s)), (6, .slice A_37 (((rdR sUrl s (decide (s.length % 4 ≠ 1))).1).length) c_37), (7, .int .i64 ((rdR sUrl s (decide (s.length % 4 ≠ 1))).2)), (8, .slice A_42 (((rdR sPlain (trim2 s) (decide (s.length % 4 = 0))).1).length) c_42), (9, .int .i64 ((rdR sPlain (trim2 s) (decide (s.length % 4 = 0))).2)), (10, .slice A_47 (((b16R s).1).length) c_47), (11, .int .i64 ((b16R s).2)), (12, .int .i64 ((n10R s).1)), (13, .int .i64 ((n10R s).2)), (18, .bool true), (30, .bool false)] := F.keep ⟨rfl, rfl, rfl, rfl, rfl, rfl, rfl, rfl, rfl, rfl, rfl, rfl, rfl, rfl, rfl, trivial⟩
  refine then_n ?_
  refine wp_seq ?_
  refine wp_only (fun ar wr => Fr 139 ar [(0, .slice (some ad) ls.length c), (2, .bool false), (3, .int .i64 ((al + s.length + 1 : Nat) : Int)), (4, .int .i64 ((i : Nat) : Int)), (5, .string (ST.str s)), (6, .slice A_37 (((rdR sUrl s (decide (s.length % 4 ≠ 1))).1).length) c_37), (7, .int .i64 ((rdR sUrl s (decide (s.length % 4 ≠ 1))).2)), (8, .slice A_42 (((rdR sPlain (trim2 s) (decide (s.length % 4 = 0))).1).length) c_42), (9, .int .i64 ((rdR sPlain (trim2 s) (decide (s.length % 4 = 0))).2)), (10, .slice A_47 (((b16R s).1).length) c_47), (11, .int .i64 ((b16R s).2)), (12, .int .i64 ((n10R s).1)), (13, .int .i64 ((n10R s).2)), (18, .bool true), (30, .bool false)] ∧ Mm w wr []) ?_ ?_
  ·
   refine wp_seq ?_
   by_cases hA : (rdR sUrl s (decide (s.length % 4 ≠ 1))).2 = 0
   ·
    by_cases hP : (rdR sPlain (trim2 s) (decide (s.length % 4 = 0))).2 = 0
    ·
     by_cases hH : (b16R s).2 = 0
     ·
      by_cases hN : (n10R s).2 = 0
      ·
       refine wp_region_lit ?_
       refine list_val F (wn rfl) rfl rfl (.int .i64 ((rdR sUrl s (decide (s.length % 4 ≠ 1))).2)) (ex_move _ rfl _ (F.e rfl)) ?_; clear F a; intro a F
       refine list_do (wn rfl) (fun K hK => ?_)
       refine ow_call rfl rfl F 11 #[.int .i64 ((rdR sUrl s (decide (s.length % 4 ≠ 1))).2)] (ex_call 11 _ _ rfl rfl g4_ent_11 _ (map1 (F.e rfl))) (num_any ((rdR sUrl s (decide (s.length % 4 ≠ 1))).2) _) (fun e u hR => ?_)
       obtain ⟨he, hb⟩ := hR
       refine ⟨.int .i64 ((rdR sUrl s (decide (s.length % 4 ≠ 1))).2), he, ?_⟩; clear he F a; intro a F
       refine hK _ _ ?_
       clear hK K
       replace O_37 := O_37.below hb
       replace O_42 := O_42.below hb
       replace O_47 := O_47.below hb
       replace M := M.below hb; clear hb; try clear v
       refine list_val F (wn rfl) rfl rfl (.bool true) (ex_bin .eql _ _ _ _ rfl .i64 _ _ (F.e rfl) rfl _ (b_eql (by rw [hA]; rfl))) ?_; clear F a; intro a F
       refine list_val F (wn rfl) rfl rfl (.bool true) (ex_move _ rfl _ (F.e rfl)) ?_; clear F a; intro a F
       refine list_val F (F.wants 58 true rfl (by kernel_rfl) rfl true rfl) rfl rfl (.slice A_37 (((rdR sUrl s (decide (s.length % 4 ≠ 1))).1).length) c_37) (ex_move _ rfl _ (F.e rfl)) ?_; clear F a; intro a F
       refine list_do (F.wants 58 true rfl (by kernel_rfl) rfl true rfl) (fun K hK => ?_)
       refine ow_call rfl rfl F 7 #[.slice A_37 (((rdR sUrl s (decide (s.length % 4 ≠ 1))).1).length) c_37] (ex_call 7 _ _ rfl rfl g4_ent_7 _ (map1 (F.e rfl))) (text64_any ((rdR sUrl s (decide (s.length % 4 ≠ 1))).1) _ _ _ O_37.rd.1 O_37.rd.2.2 (by omega)) (fun e v hR => ?_)
       obtain ⟨he, hb⟩ := hR
       refine ⟨.string (ST.str (enc sUrl ((rdR sUrl s (decide (s.length % 4 ≠ 1))).1))), he, ?_⟩; clear he F a; intro a F
       refine hK _ _ ?_
       clear hK K
       replace O_37 := O_37.below hb
       replace O_42 := O_42.below hb
       replace O_47 := O_47.below hb
       replace M := M.below hb; clear hb; try clear u
       refine list_val F (F.wants 58 true rfl (by kernel_rfl) rfl true rfl) rfl rfl (.string (ST.str s)) (ex_move _ rfl _ (F.e rfl)) ?_; clear F a; intro a F
       refine list_val F (F.wants 58 true rfl (by kernel_rfl) rfl true rfl) rfl rfl (.bool false) (ST.ex_neqs _ _ _ _ rfl (enc sUrl ((rdR sUrl s (decide (s.length % 4 ≠ 1))).1)) s (F.e rfl) (F.e rfl) false (by rw [decide_eq_true (rd64_enc hA)]; rfl)) ?_; clear F a; intro a F
       refine list_val F (wn rfl) rfl rfl (.bool false) (ex_pick_t _ _ _ rfl (F.e rfl) _ (F.e rfl)) ?_; clear F a; intro a F
       refine list_val F (wn rfl) rfl rfl (.bool false) (ex_move _ rfl _ (F.e rfl)) ?_; clear F a; intro a F
       refine list_val F (F.wants 64 false rfl (by kernel_rfl) rfl true rfl) rfl rfl (.int .i64 ((rdR sPlain (trim2 s) (decide (s.length % 4 = 0))).2)) (ex_move _ rfl _ (F.e rfl)) ?_; clear F a; intro a F
       refine list_do (F.wants 64 false rfl (by kernel_rfl) rfl true rfl) (fun K hK => ?_)
       refine ow_call rfl rfl F 11 #[.int .i64 ((rdR sPlain (trim2 s) (decide (s.length % 4 = 0))).2)] (ex_call 11 _ _ rfl rfl g4_ent_11 _ (map1 (F.e rfl))) (num_any ((rdR sPlain (trim2 s) (decide (s.length % 4 = 0))).2) _) (fun e u hR => ?_)
       obtain ⟨he, hb⟩ := hR
       refine ⟨.int .i64 ((rdR sPlain (trim2 s) (decide (s.length % 4 = 0))).2), he, ?_⟩; clear he F a; intro a F
       refine hK _ _ ?_
       clear hK K
       replace O_37 := O_37.below hb
       replace O_42 := O_42.below hb
       replace O_47 := O_47.below hb
       replace M := M.below hb; clear hb; try clear v
       refine list_val F (F.wants 64 false rfl (by kernel_rfl) rfl true rfl) rfl rfl (.bool true) (ex_bin .eql _ _ _ _ rfl .i64 _ _ (F.e rfl) rfl _ (b_eql (by rw [hP]; rfl))) ?_; clear F a; intro a F
       refine list_val F (F.wants 64 false rfl (by kernel_rfl) rfl true rfl) rfl rfl (.bool true) (ex_move _ rfl _ (F.e rfl)) ?_; clear F a; intro a F
       refine list_val F (F.wants 68 true rfl (by kernel_rfl) rfl true rfl) rfl rfl (.slice A_42 (((rdR sPlain (trim2 s) (decide (s.length % 4 = 0))).1).length) c_42) (ex_move _ rfl _ (F.e rfl)) ?_; clear F a; intro a F
       refine list_do (F.wants 68 true rfl (by kernel_rfl) rfl true rfl) (fun K hK => ?_)
       refine ow_call rfl rfl F 8 #[.slice A_42 (((rdR sPlain (trim2 s) (decide (s.length % 4 = 0))).1).length) c_42] (ex_call 8 _ _ rfl rfl g4_ent_8 _ (map1 (F.e rfl))) (textPad_any ((rdR sPlain (trim2 s) (decide (s.length % 4 = 0))).1) _ _ _ O_42.rd.1 O_42.rd.2.2 (by omega)) (fun e v hR => ?_)
       obtain ⟨he, hb⟩ := hR
       refine ⟨.string (ST.str (encPad ((rdR sPlain (trim2 s) (decide (s.length % 4 = 0))).1))), he, ?_⟩; clear he F a; intro a F
       refine hK _ _ ?_
       clear hK K
       replace O_37 := O_37.below hb
       replace O_42 := O_42.below hb
       replace O_47 := O_47.below hb
       replace M := M.below hb; clear hb; try clear u
       refine list_val F (F.wants 68 true rfl (by kernel_rfl) rfl true rfl) rfl rfl (.string (ST.str s)) (ex_move _ rfl _ (F.e rfl)) ?_; clear F a; intro a F
       refine list_val F (F.wants 68 true rfl (by kernel_rfl) rfl true rfl) rfl rfl (.bool false) (ST.ex_neqs _ _ _ _ rfl (encPad ((rdR sPlain (trim2 s) (decide (s.length % 4 = 0))).1)) s (F.e rfl) (F.e rfl) false (by rw [decide_eq_true (rdPad_enc hP)]; rfl)) ?_; clear F a; intro a F
       refine list_val F (F.wants 64 false rfl (by kernel_rfl) rfl true rfl) rfl rfl (.bool false) (ex_pick_t _ _ _ rfl (F.e rfl) _ (F.e rfl)) ?_; clear F a; intro a F
       refine list_val F (wn rfl) rfl rfl (.bool false) (ex_pick_f _ _ _ rfl (F.e rfl) _ (F.e rfl)) ?_; clear F a; intro a F
       refine list_val F (wn rfl) rfl rfl (.bool false) (ex_move _ rfl _ (F.e rfl)) ?_; clear F a; intro a F
       refine list_val F (F.wants 75 false rfl (by kernel_rfl) rfl true rfl) rfl rfl (.int .i64 ((b16R s).2)) (ex_move _ rfl _ (F.e rfl)) ?_; clear F a; intro a F
       refine list_do (F.wants 75 false rfl (by kernel_rfl) rfl true rfl) (fun K hK => ?_)
       refine ow_call rfl rfl F 11 #[.int .i64 ((b16R s).2)] (ex_call 11 _ _ rfl rfl g4_ent_11 _ (map1 (F.e rfl))) (num_any ((b16R s).2) _) (fun e u hR => ?_)
       obtain ⟨he, hb⟩ := hR
       refine ⟨.int .i64 ((b16R s).2), he, ?_⟩; clear he F a; intro a F
       refine hK _ _ ?_
       clear hK K
       replace O_37 := O_37.below hb
       replace O_42 := O_42.below hb
       replace O_47 := O_47.below hb
       replace M := M.below hb; clear hb; try clear v
       refine list_val F (F.wants 75 false rfl (by kernel_rfl) rfl true rfl) rfl rfl (.bool true) (ex_bin .eql _ _ _ _ rfl .i64 _ _ (F.e rfl) rfl _ (b_eql (by rw [hH]; rfl))) ?_; clear F a; intro a F
       refine list_val F (F.wants 75 false rfl (by kernel_rfl) rfl true rfl) rfl rfl (.bool true) (ex_move _ rfl _ (F.e rfl)) ?_; clear F a; intro a F
       refine list_val F (F.wants 79 true rfl (by kernel_rfl) rfl true rfl) rfl rfl (.slice A_47 (((b16R s).1).length) c_47) (ex_move _ rfl _ (F.e rfl)) ?_; clear F a; intro a F
       refine list_do (F.wants 79 true rfl (by kernel_rfl) rfl true rfl) (fun K hK => ?_)
       refine ow_call rfl rfl F 6 #[.slice A_47 (((b16R s).1).length) c_47] (ex_call 6 _ _ rfl rfl g4_ent_6 _ (map1 (F.e rfl))) (text16_any ((b16R s).1) _ _ _ O_47.rd.1 O_47.rd.2.2 (by omega)) (fun e v hR => ?_)
       obtain ⟨he, hb⟩ := hR
       refine ⟨.string (ST.str (hex16 ((b16R s).1))), he, ?_⟩; clear he F a; intro a F
       refine hK _ _ ?_
       clear hK K
       replace O_37 := O_37.below hb
       replace O_42 := O_42.below hb
       replace O_47 := O_47.below hb
       replace M := M.below hb; clear hb; try clear u
       refine list_val F (F.wants 79 true rfl (by kernel_rfl) rfl true rfl) rfl rfl (.string (ST.str s)) (ex_move _ rfl _ (F.e rfl)) ?_; clear F a; intro a F
       refine list_val F (F.wants 79 true rfl (by kernel_rfl) rfl true rfl) rfl rfl (.bool false) (ST.ex_neqs _ _ _ _ rfl (hex16 ((b16R s).1)) s (F.e rfl) (F.e rfl) false (by rw [decide_eq_true (b16_enc hH)]; rfl)) ?_; clear F a; intro a F
       refine list_val F (F.wants 75 false rfl (by kernel_rfl) rfl true rfl) rfl rfl (.bool false) (ex_pick_t _ _ _ rfl (F.e rfl) _ (F.e rfl)) ?_; clear F a; intro a F
       refine list_val F (wn rfl) rfl rfl (.bool false) (ex_pick_f _ _ _ rfl (F.e rfl) _ (F.e rfl)) ?_; clear F a; intro a F
       refine list_val F (wn rfl) rfl rfl (.bool false) (ex_move _ rfl _ (F.e rfl)) ?_; clear F a; intro a F
       refine list_val F (F.wants 86 false rfl (by kernel_rfl) rfl true rfl) rfl rfl (.int .i64 ((n10R s).2)) (ex_move _ rfl _ (F.e rfl)) ?_; clear F a; intro a F
       refine list_do (F.wants 86 false rfl (by kernel_rfl) rfl true rfl) (fun K hK => ?_)
       refine ow_call rfl rfl F 11 #[.int .i64 ((n10R s).2)] (ex_call 11 _ _ rfl rfl g4_ent_11 _ (map1 (F.e rfl))) (num_any ((n10R s).2) _) (fun e u hR => ?_)
       obtain ⟨he, hb⟩ := hR
       refine ⟨.int .i64 ((n10R s).2), he, ?_⟩; clear he F a; intro a F
       refine hK _ _ ?_
       clear hK K
       replace O_37 := O_37.below hb
       replace O_42 := O_42.below hb
       replace O_47 := O_47.below hb
       replace M := M.below hb; clear hb; try clear v
       refine list_val F (F.wants 86 false rfl (by kernel_rfl) rfl true rfl) rfl rfl (.bool true) (ex_bin .eql _ _ _ _ rfl .i64 _ _ (F.e rfl) rfl _ (b_eql (by rw [hN]; rfl))) ?_; clear F a; intro a F
       refine list_val F (F.wants 86 false rfl (by kernel_rfl) rfl true rfl) rfl rfl (.bool true) (ex_move _ rfl _ (F.e rfl)) ?_; clear F a; intro a F
       refine list_val F (F.wants 90 true rfl (by kernel_rfl) rfl true rfl) rfl rfl (.int .i64 ((n10R s).1)) (ex_move _ rfl _ (F.e rfl)) ?_; clear F a; intro a F
       refine list_do (F.wants 90 true rfl (by kernel_rfl) rfl true rfl) (fun K hK => ?_)
       refine ow_call rfl rfl F 18 #[.int .i64 ((n10R s).1)] (ex_call 18 _ _ rfl rfl g4_ent_18 _ (map1 (F.e rfl))) (text10_any (n10R s).1 hbd.1 hbd.2 _ (hE.below M.bel)) (fun e v hR => ?_)
       obtain ⟨he, hb⟩ := hR
       refine ⟨.string (ST.str (Lib.itoa (n10R s).1)), he, ?_⟩; clear he F a; intro a F
       refine hK _ _ ?_
       clear hK K
       replace O_37 := O_37.below hb
       replace O_42 := O_42.below hb
       replace O_47 := O_47.below hb
       replace M := M.below hb; clear hb; try clear u
       refine list_val F (F.wants 90 true rfl (by kernel_rfl) rfl true rfl) rfl rfl (.string (ST.str s)) (ex_move _ rfl _ (F.e rfl)) ?_; clear F a; intro a F
       refine list_val F (F.wants 90 true rfl (by kernel_rfl) rfl true rfl) rfl rfl (.bool false) (ST.ex_neqs _ _ _ _ rfl (Lib.itoa (n10R s).1) s (F.e rfl) (F.e rfl) false (by rw [decide_eq_true (n10_enc hN)]; rfl)) ?_; clear F a; intro a F
       refine list_val F (F.wants 86 false rfl (by kernel_rfl) rfl true rfl) rfl rfl (.bool false) (ex_pick_t _ _ _ rfl (F.e rfl) _ (F.e rfl)) ?_; clear F a; intro a F
       refine list_val F (wn rfl) rfl rfl (.bool false) (ex_pick_f _ _ _ rfl (F.e rfl) _ (F.e rfl)) ?_; clear F a; intro a F
       refine wpList_nil ?_
       replace F : Fr 139 a [(0, .slice (some ad) ls.length c), (2, .bool false), (3, .int .i64 ((al + s.length + 1 : Nat) : Int)), (4, .int .i64 ((i : Nat) : Int)), (5, .string (ST.str s)), (6, .slice A_37 (((rdR sUrl s (decide (s.length % 4 ≠ 1))).1).length) c_37), (7, .int .i64 ((rdR sUrl s (decide (s.length % 4 ≠ 1))).2)), (8, .slice A_42 (((rdR sPlain (trim2 s) (decide (s.length % 4 = 0))).1).length) c_42), (9, .int .i64 ((rdR sPlain (trim2 s) (decide (s.length % 4 = 0))).2)), (10, .slice A_47 (((b16R s).1).length) c_47), (11, .int .i64 ((b16R s).2)), (12, .int .i64 ((n10R s).1)), (13, .int .i64 ((n10R s).2)), (18, .bool true), (30, .bool false), (96, .bool false)] := F.keep ⟨rfl, rfl, rfl, rfl, rfl, rfl, rfl, rfl, rfl, rfl, rfl, rfl, rfl, rfl, rfl, rfl, trivial⟩
       refine then_n ?_
       refine wp_cond_false (F.e rfl) ?_
       refine wp_skip ?_
       refine only_n ?_
       exact ⟨F.keep ⟨rfl, rfl, rfl, rfl, rfl, rfl, rfl, rfl, rfl, rfl, rfl, rfl, rfl, rfl, rfl, trivial⟩, (by refine M.pick' [] _ ?_ (by decide); exact trivial)⟩
      refine wp_region_lit ?_
      refine list_val F (wn rfl) rfl rfl (.int .i64 ((rdR sUrl s (decide (s.length % 4 ≠ 1))).2)) (ex_move _ rfl _ (F.e rfl)) ?_; clear F a; intro a F
      refine list_do (wn rfl) (fun K hK => ?_)
      refine ow_call rfl rfl F 11 #[.int .i64 ((rdR sUrl s (decide (s.length % 4 ≠ 1))).2)] (ex_call 11 _ _ rfl rfl g4_ent_11 _ (map1 (F.e rfl))) (num_any ((rdR sUrl s (decide (s.length % 4 ≠ 1))).2) _) (fun e u hR => ?_)
      obtain ⟨he, hb⟩ := hR
      refine ⟨.int .i64 ((rdR sUrl s (decide (s.length % 4 ≠ 1))).2), he, ?_⟩; clear he F a; intro a F
      refine hK _ _ ?_
      clear hK K
      replace O_37 := O_37.below hb
      replace O_42 := O_42.below hb
      replace O_47 := O_47.below hb
      replace M := M.below hb; clear hb; try clear v
      refine list_val F (wn rfl) rfl rfl (.bool true) (ex_bin .eql _ _ _ _ rfl .i64 _ _ (F.e rfl) rfl _ (b_eql (by rw [hA]; rfl))) ?_; clear F a; intro a F
      refine list_val F (wn rfl) rfl rfl (.bool true) (ex_move _ rfl _ (F.e rfl)) ?_; clear F a; intro a F
      refine list_val F (F.wants 58 true rfl (by kernel_rfl) rfl true rfl) rfl rfl (.slice A_37 (((rdR sUrl s (decide (s.length % 4 ≠ 1))).1).length) c_37) (ex_move _ rfl _ (F.e rfl)) ?_; clear F a; intro a F
      refine list_do (F.wants 58 true rfl (by kernel_rfl) rfl true rfl) (fun K hK => ?_)
      refine ow_call rfl rfl F 7 #[.slice A_37 (((rdR sUrl s (decide (s.length % 4 ≠ 1))).1).length) c_37] (ex_call 7 _ _ rfl rfl g4_ent_7 _ (map1 (F.e rfl))) (text64_any ((rdR sUrl s (decide (s.length % 4 ≠ 1))).1) _ _ _ O_37.rd.1 O_37.rd.2.2 (by omega)) (fun e v hR => ?_)
      obtain ⟨he, hb⟩ := hR
      refine ⟨.string (ST.str (enc sUrl ((rdR sUrl s (decide (s.length % 4 ≠ 1))).1))), he, ?_⟩; clear he F a; intro a F
      refine hK _ _ ?_
      clear hK K
      replace O_37 := O_37.below hb
      replace O_42 := O_42.below hb
      replace O_47 := O_47.below hb
      replace M := M.below hb; clear hb; try clear u
      refine list_val F (F.wants 58 true rfl (by kernel_rfl) rfl true rfl) rfl rfl (.string (ST.str s)) (ex_move _ rfl _ (F.e rfl)) ?_; clear F a; intro a F
      refine list_val F (F.wants 58 true rfl (by kernel_rfl) rfl true rfl) rfl rfl (.bool false) (ST.ex_neqs _ _ _ _ rfl (enc sUrl ((rdR sUrl s (decide (s.length % 4 ≠ 1))).1)) s (F.e rfl) (F.e rfl) false (by rw [decide_eq_true (rd64_enc hA)]; rfl)) ?_; clear F a; intro a F
      refine list_val F (wn rfl) rfl rfl (.bool false) (ex_pick_t _ _ _ rfl (F.e rfl) _ (F.e rfl)) ?_; clear F a; intro a F
      refine list_val F (wn rfl) rfl rfl (.bool false) (ex_move _ rfl _ (F.e rfl)) ?_; clear F a; intro a F
      refine list_val F (F.wants 64 false rfl (by kernel_rfl) rfl true rfl) rfl rfl (.int .i64 ((rdR sPlain (trim2 s) (decide (s.length % 4 = 0))).2)) (ex_move _ rfl _ (F.e rfl)) ?_; clear F a; intro a F
      refine list_do (F.wants 64 false rfl (by kernel_rfl) rfl true rfl) (fun K hK => ?_)
      refine ow_call rfl rfl F 11 #[.int .i64 ((rdR sPlain (trim2 s) (decide (s.length % 4 = 0))).2)] (ex_call 11 _ _ rfl rfl g4_ent_11 _ (map1 (F.e rfl))) (num_any ((rdR sPlain (trim2 s) (decide (s.length % 4 = 0))).2) _) (fun e u hR => ?_)
      obtain ⟨he, hb⟩ := hR
      refine ⟨.int .i64 ((rdR sPlain (trim2 s) (decide (s.length % 4 = 0))).2), he, ?_⟩; clear he F a; intro a F
      refine hK _ _ ?_
      clear hK K
      replace O_37 := O_37.below hb
      replace O_42 := O_42.below hb
      replace O_47 := O_47.below hb
      replace M := M.below hb; clear hb; try clear v
      refine list_val F (F.wants 64 false rfl (by kernel_rfl) rfl true rfl) rfl rfl (.bool true) (ex_bin .eql _ _ _ _ rfl .i64 _ _ (F.e rfl) rfl _ (b_eql (by rw [hP]; rfl))) ?_; clear F a; intro a F
      refine list_val F (F.wants 64 false rfl (by kernel_rfl) rfl true rfl) rfl rfl (.bool true) (ex_move _ rfl _ (F.e rfl)) ?_; clear F a; intro a F
      refine list_val F (F.wants 68 true rfl (by kernel_rfl) rfl true rfl) rfl rfl (.slice A_42 (((rdR sPlain (trim2 s) (decide (s.length % 4 = 0))).1).length) c_42) (ex_move _ rfl _ (F.e rfl)) ?_; clear F a; intro a F
      refine list_do (F.wants 68 true rfl (by kernel_rfl) rfl true rfl) (fun K hK => ?_)
      refine ow_call rfl rfl F 8 #[.slice A_42 (((rdR sPlain (trim2 s) (decide (s.length % 4 = 0))).1).length) c_42] (ex_call 8 _ _ rfl rfl g4_ent_8 _ (map1 (F.e rfl))) (textPad_any ((rdR sPlain (trim2 s) (decide (s.length % 4 = 0))).1) _ _ _ O_42.rd.1 O_42.rd.2.2 (by omega)) (fun e v hR => ?_)
      obtain ⟨he, hb⟩ := hR
      refine ⟨.string (ST.str (encPad ((rdR sPlain (trim2 s) (decide (s.length % 4 = 0))).1))), he, ?_⟩; clear he F a; intro a F
      refine hK _ _ ?_
      clear hK K
      replace O_37 := O_37.below hb
      replace O_42 := O_42.below hb
      replace O_47 := O_47.below hb
      replace M := M.below hb; clear hb; try clear u
      refine list_val F (F.wants 68 true rfl (by kernel_rfl) rfl true rfl) rfl rfl (.string (ST.str s)) (ex_move _ rfl _ (F.e rfl)) ?_; clear F a; intro a F
      refine list_val F (F.wants 68 true rfl (by kernel_rfl) rfl true rfl) rfl rfl (.bool false) (ST.ex_neqs _ _ _ _ rfl (encPad ((rdR sPlain (trim2 s) (decide (s.length % 4 = 0))).1)) s (F.e rfl) (F.e rfl) false (by rw [decide_eq_true (rdPad_enc hP)]; rfl)) ?_; clear F a; intro a F
      refine list_val F (F.wants 64 false rfl (by kernel_rfl) rfl true rfl) rfl rfl (.bool false) (ex_pick_t _ _ _ rfl (F.e rfl) _ (F.e rfl)) ?_; clear F a; intro a F
      refine list_val F (wn rfl) rfl rfl (.bool false) (ex_pick_f _ _ _ rfl (F.e rfl) _ (F.e rfl)) ?_; clear F a; intro a F
      refine list_val F (wn rfl) rfl rfl (.bool false) (ex_move _ rfl _ (F.e rfl)) ?_; clear F a; intro a F
      refine list_val F (F.wants 75 false rfl (by kernel_rfl) rfl true rfl) rfl rfl (.int .i64 ((b16R s).2)) (ex_move _ rfl _ (F.e rfl)) ?_; clear F a; intro a F
      refine list_do (F.wants 75 false rfl (by kernel_rfl) rfl true rfl) (fun K hK => ?_)
      refine ow_call rfl rfl F 11 #[.int .i64 ((b16R s).2)] (ex_call 11 _ _ rfl rfl g4_ent_11 _ (map1 (F.e rfl))) (num_any ((b16R s).2) _) (fun e u hR => ?_)
      obtain ⟨he, hb⟩ := hR
      refine ⟨.int .i64 ((b16R s).2), he, ?_⟩; clear he F a; intro a F
      refine hK _ _ ?_
      clear hK K
      replace O_37 := O_37.below hb
      replace O_42 := O_42.below hb
      replace O_47 := O_47.below hb
      replace M := M.below hb; clear hb; try clear v
      refine list_val F (F.wants 75 false rfl (by kernel_rfl) rfl true rfl) rfl rfl (.bool true) (ex_bin .eql _ _ _ _ rfl .i64 _ _ (F.e rfl) rfl _ (b_eql (by rw [hH]; rfl))) ?_; clear F a; intro a F
      refine list_val F (F.wants 75 false rfl (by kernel_rfl) rfl true rfl) rfl rfl (.bool true) (ex_move _ rfl _ (F.e rfl)) ?_; clear F a; intro a F
      refine list_val F (F.wants 79 true rfl (by kernel_rfl) rfl true rfl) rfl rfl (.slice A_47 (((b16R s).1).length) c_47) (ex_move _ rfl _ (F.e rfl)) ?_; clear F a; intro a F
      refine list_do (F.wants 79 true rfl (by kernel_rfl) rfl true rfl) (fun K hK => ?_)
      refine ow_call rfl rfl F 6 #[.slice A_47 (((b16R s).1).length) c_47] (ex_call 6 _ _ rfl rfl g4_ent_6 _ (map1 (F.e rfl))) (text16_any ((b16R s).1) _ _ _ O_47.rd.1 O_47.rd.2.2 (by omega)) (fun e v hR => ?_)
      obtain ⟨he, hb⟩ := hR
      refine ⟨.string (ST.str (hex16 ((b16R s).1))), he, ?_⟩; clear he F a; intro a F
      refine hK _ _ ?_
      clear hK K
      replace O_37 := O_37.below hb
      replace O_42 := O_42.below hb
      replace O_47 := O_47.below hb
      replace M := M.below hb; clear hb; try clear u
      refine list_val F (F.wants 79 true rfl (by kernel_rfl) rfl true rfl) rfl rfl (.string (ST.str s)) (ex_move _ rfl _ (F.e rfl)) ?_; clear F a; intro a F
      refine list_val F (F.wants 79 true rfl (by kernel_rfl) rfl true rfl) rfl rfl (.bool false) (ST.ex_neqs _ _ _ _ rfl (hex16 ((b16R s).1)) s (F.e rfl) (F.e rfl) false (by rw [decide_eq_true (b16_enc hH)]; rfl)) ?_; clear F a; intro a F
      refine list_val F (F.wants 75 false rfl (by kernel_rfl) rfl true rfl) rfl rfl (.bool false) (ex_pick_t _ _ _ rfl (F.e rfl) _ (F.e rfl)) ?_; clear F a; intro a F
      refine list_val F (wn rfl) rfl rfl (.bool false) (ex_pick_f _ _ _ rfl (F.e rfl) _ (F.e rfl)) ?_; clear F a; intro a F
      refine list_val F (wn rfl) rfl rfl (.bool false) (ex_move _ rfl _ (F.e rfl)) ?_; clear F a; intro a F
      refine list_val F (F.wants 86 false rfl (by kernel_rfl) rfl true rfl) rfl rfl (.int .i64 ((n10R s).2)) (ex_move _ rfl _ (F.e rfl)) ?_; clear F a; intro a F
      refine list_do (F.wants 86 false rfl (by kernel_rfl) rfl true rfl) (fun K hK => ?_)
      refine ow_call rfl rfl F 11 #[.int .i64 ((n10R s).2)] (ex_call 11 _ _ rfl rfl g4_ent_11 _ (map1 (F.e rfl))) (num_any ((n10R s).2) _) (fun e u hR => ?_)
      obtain ⟨he, hb⟩ := hR
      refine ⟨.int .i64 ((n10R s).2), he, ?_⟩; clear he F a; intro a F
      refine hK _ _ ?_
      clear hK K
      replace O_37 := O_37.below hb
      replace O_42 := O_42.below hb
      replace O_47 := O_47.below hb
      replace M := M.below hb; clear hb; try clear v
      refine list_val F (F.wants 86 false rfl (by kernel_rfl) rfl true rfl) rfl rfl (.bool false) (ex_bin .eql _ _ _ _ rfl .i64 _ _ (F.e rfl) rfl _ (b_eql (beq_eq_false_iff_ne.2 hN))) ?_; clear F a; intro a F
      refine list_val F (F.wants 86 false rfl (by kernel_rfl) rfl true rfl) rfl rfl (.bool false) (ex_move _ rfl _ (F.e rfl)) ?_; clear F a; intro a F
      refine list_skip F (F.wants 90 false rfl (by kernel_rfl) rfl false rfl) rfl rfl ?_; clear F a; intro a F
      refine list_skip F (F.wants 90 false rfl (by kernel_rfl) rfl false rfl) rfl rfl ?_; clear F a; intro a F
      refine list_skip F (F.wants 90 false rfl (by kernel_rfl) rfl false rfl) rfl rfl ?_; clear F a; intro a F
      refine list_skip F (F.wants 90 false rfl (by kernel_rfl) rfl false rfl) rfl rfl ?_; clear F a; intro a F
      refine list_val F (F.wants 86 false rfl (by kernel_rfl) rfl true rfl) rfl rfl (.bool false) (ex_pick_f _ _ _ rfl (F.e rfl) _ rfl) ?_; clear F a; intro a F
      refine list_val F (wn rfl) rfl rfl (.bool false) (ex_pick_f _ _ _ rfl (F.e rfl) _ (F.e rfl)) ?_; clear F a; intro a F
      refine wpList_nil ?_
      replace F : Fr 139 a [(0, .slice (some ad) ls.length c), (2, .bool false), (3, .int .i64 ((al + s.length + 1 : Nat) : Int)), (4, .int .i64 ((i : Nat) : Int)), (5, .string (ST.str s)), (6, .slice A_37 (((rdR sUrl s (decide (s.length % 4 ≠ 1))).1).length) c_37), (7, .int .i64 ((rdR sUrl s (decide (s.length % 4 ≠ 1))).2)), (8, .slice A_42 (((rdR sPlain (trim2 s) (decide (s.length % 4 = 0))).1).length) c_42), (9, .int .i64 ((rdR sPlain (trim2 s) (decide (s.length % 4 = 0))).2)), (10, .slice A_47 (((b16R s).1).length) c_47), (11, .int .i64 ((b16R s).2)), (12, .int .i64 ((n10R s).1)), (13, .int .i64 ((n10R s).2)), (18, .bool true), (30, .bool false), (96, .bool false)] := F.keep ⟨rfl, rfl, rfl, rfl, rfl, rfl, rfl, rfl, rfl, rfl, rfl, rfl, rfl, rfl, rfl, rfl, trivial⟩
      refine then_n ?_
      refine wp_cond_false (F.e rfl) ?_
      refine wp_skip ?_
      refine only_n ?_
      exact ⟨F.keep ⟨rfl, rfl, rfl, rfl, rfl, rfl, rfl, rfl, rfl, rfl, rfl, rfl, rfl, rfl, rfl, trivial⟩, (by refine M.pick' [] _ ?_ (by decide); exact trivial)⟩
     by_cases hN : (n10R s).2 = 0
     ·
      refine wp_region_lit ?_
      refine list_val F (wn rfl) rfl rfl (.int .i64 ((rdR sUrl s (decide (s.length % 4 ≠ 1))).2)) (ex_move _ rfl _ (F.e rfl)) ?_; clear F a; intro a F
      refine list_do (wn rfl) (fun K hK => ?_)
      refine ow_call rfl rfl F 11 #[.int .i64 ((rdR sUrl s (decide (s.length % 4 ≠ 1))).2)] (ex_call 11 _ _ rfl rfl g4_ent_11 _ (map1 (F.e rfl))) (num_any ((rdR sUrl s (decide (s.length % 4 ≠ 1))).2) _) (fun e u hR => ?_)
      obtain ⟨he, hb⟩ := hR
      refine ⟨.int .i64 ((rdR sUrl s (decide (s.length % 4 ≠ 1))).2), he, ?_⟩; clear he F a; intro a F
      refine hK _ _ ?_
      clear hK K
      replace O_37 := O_37.below hb
      replace O_42 := O_42.below hb
      replace O_47 := O_47.below hb
      replace M := M.below hb; clear hb; try clear v
      refine list_val F (wn rfl) rfl rfl (.bool true) (ex_bin .eql _ _ _ _ rfl .i64 _ _ (F.e rfl) rfl _ (b_eql (by rw [hA]; rfl))) ?_; clear F a; intro a F
      refine list_val F (wn rfl) rfl rfl (.bool true) (ex_move _ rfl _ (F.e rfl)) ?_; clear F a; intro a F
      refine list_val F (F.wants 58 true rfl (by kernel_rfl) rfl true rfl) rfl rfl (.slice A_37 (((rdR sUrl s (decide (s.length % 4 ≠ 1))).1).length) c_37) (ex_move _ rfl _ (F.e rfl)) ?_; clear F a; intro a F
      refine list_do (F.wants 58 true rfl (by kernel_rfl) rfl true rfl) (fun K hK => ?_)
      refine ow_call rfl rfl F 7 #[.slice A_37 (((rdR sUrl s (decide (s.length % 4 ≠ 1))).1).length) c_37] (ex_call 7 _ _ rfl rfl g4_ent_7 _ (map1 (F.e rfl))) (text64_any ((rdR sUrl s (decide (s.length % 4 ≠ 1))).1) _ _ _ O_37.rd.1 O_37.rd.2.2 (by omega)) (fun e v hR => ?_)
      obtain ⟨he, hb⟩ := hR
      refine ⟨.string (ST.str (enc sUrl ((rdR sUrl s (decide (s.length % 4 ≠ 1))).1))), he, ?_⟩; clear he F a; intro a F
      refine hK _ _ ?_
      clear hK K
      replace O_37 := O_37.below hb
      replace O_42 := O_42.below hb
      replace O_47 := O_47.below hb
      replace M := M.below hb; clear hb; try clear u
      refine list_val F (F.wants 58 true rfl (by kernel_rfl) rfl true rfl) rfl rfl (.string (ST.str s)) (ex_move _ rfl _ (F.e rfl)) ?_; clear F a; intro a F
      refine list_val F (F.wants 58 true rfl (by kernel_rfl) rfl true rfl) rfl rfl (.bool false) (ST.ex_neqs _ _ _ _ rfl (enc sUrl ((rdR sUrl s (decide (s.length % 4 ≠ 1))).1)) s (F.e rfl) (F.e rfl) false (by rw [decide_eq_true (rd64_enc hA)]; rfl)) ?_; clear F a; intro a F
      refine list_val F (wn rfl) rfl rfl (.bool false) (ex_pick_t _ _ _ rfl (F.e rfl) _ (F.e rfl)) ?_; clear F a; intro a F
      refine list_val F (wn rfl) rfl rfl (.bool false) (ex_move _ rfl _ (F.e rfl)) ?_; clear F a; intro a F
      refine list_val F (F.wants 64 false rfl (by kernel_rfl) rfl true rfl) rfl rfl (.int .i64 ((rdR sPlain (trim2 s) (decide (s.length % 4 = 0))).2)) (ex_move _ rfl _ (F.e rfl)) ?_; clear F a; intro a F
      refine list_do (F.wants 64 false rfl (by kernel_rfl) rfl true rfl) (fun K hK => ?_)
      refine ow_call rfl rfl F 11 #[.int .i64 ((rdR sPlain (trim2 s) (decide (s.length % 4 = 0))).2)] (ex_call 11 _ _ rfl rfl g4_ent_11 _ (map1 (F.e rfl))) (num_any ((rdR sPlain (trim2 s) (decide (s.length % 4 = 0))).2) _) (fun e u hR => ?_)
      obtain ⟨he, hb⟩ := hR
      refine ⟨.int .i64 ((rdR sPlain (trim2 s) (decide (s.length % 4 = 0))).2), he, ?_⟩; clear he F a; intro a F
      refine hK _ _ ?_
      clear hK K
      replace O_37 := O_37.below hb
      replace O_42 := O_42.below hb
      replace O_47 := O_47.below hb
      replace M := M.below hb; clear hb; try clear v
      refine list_val F (F.wants 64 false rfl (by kernel_rfl) rfl true rfl) rfl rfl (.bool true) (ex_bin .eql _ _ _ _ rfl .i64 _ _ (F.e rfl) rfl _ (b_eql (by rw [hP]; rfl))) ?_; clear F a; intro a F
      refine list_val F (F.wants 64 false rfl (by kernel_rfl) rfl true rfl) rfl rfl (.bool true) (ex_move _ rfl _ (F.e rfl)) ?_; clear F a; intro a F
      refine list_val F (F.wants 68 true rfl (by kernel_rfl) rfl true rfl) rfl rfl (.slice A_42 (((rdR sPlain (trim2 s) (decide (s.length % 4 = 0))).1).length) c_42) (ex_move _ rfl _ (F.e rfl)) ?_; clear F a; intro a F
      refine list_do (F.wants 68 true rfl (by kernel_rfl) rfl true rfl) (fun K hK => ?_)
      refine ow_call rfl rfl F 8 #[.slice A_42 (((rdR sPlain (trim2 s) (decide (s.length % 4 = 0))).1).length) c_42] (ex_call 8 _ _ rfl rfl g4_ent_8 _ (map1 (F.e rfl))) (textPad_any ((rdR sPlain (trim2 s) (decide (s.length % 4 = 0))).1) _ _ _ O_42.rd.1 O_42.rd.2.2 (by omega)) (fun e v hR => ?_)
      obtain ⟨he, hb⟩ := hR
      refine ⟨.string (ST.str (encPad ((rdR sPlain (trim2 s) (decide (s.length % 4 = 0))).1))), he, ?_⟩; clear he F a; intro a F
      refine hK _ _ ?_
      clear hK K
      replace O_37 := O_37.below hb
      replace O_42 := O_42.below hb
      replace O_47 := O_47.below hb
      replace M := M.below hb; clear hb; try clear u
      refine list_val F (F.wants 68 true rfl (by kernel_rfl) rfl true rfl) rfl rfl (.string (ST.str s)) (ex_move _ rfl _ (F.e rfl)) ?_; clear F a; intro a F
      refine list_val F (F.wants 68 true rfl (by kernel_rfl) rfl true rfl) rfl rfl (.bool false) (ST.ex_neqs _ _ _ _ rfl (encPad ((rdR sPlain (trim2 s) (decide (s.length % 4 = 0))).1)) s (F.e rfl) (F.e rfl) false (by rw [decide_eq_true (rdPad_enc hP)]; rfl)) ?_; clear F a; intro a F
      refine list_val F (F.wants 64 false rfl (by kernel_rfl) rfl true rfl) rfl rfl (.bool false) (ex_pick_t _ _ _ rfl (F.e rfl) _ (F.e rfl)) ?_; clear F a; intro a F
      refine list_val F (wn rfl) rfl rfl (.bool false) (ex_pick_f _ _ _ rfl (F.e rfl) _ (F.e rfl)) ?_; clear F a; intro a F
      refine list_val F (wn rfl) rfl rfl (.bool false) (ex_move _ rfl _ (F.e rfl)) ?_; clear F a; intro a F
      refine list_val F (F.wants 75 false rfl (by kernel_rfl) rfl true rfl) rfl rfl (.int .i64 ((b16R s).2)) (ex_move _ rfl _ (F.e rfl)) ?_; clear F a; intro a F
      refine list_do (F.wants 75 false rfl (by kernel_rfl) rfl true rfl) (fun K hK => ?_)
      refine ow_call rfl rfl F 11 #[.int .i64 ((b16R s).2)] (ex_call 11 _ _ rfl rfl g4_ent_11 _ (map1 (F.e rfl))) (num_any ((b16R s).2) _) (fun e u hR => ?_)
      obtain ⟨he, hb⟩ := hR
      refine ⟨.int .i64 ((b16R s).2), he, ?_⟩; clear he F a; intro a F
      refine hK _ _ ?_
      clear hK K
      replace O_37 := O_37.below hb
      replace O_42 := O_42.below hb
      replace O_47 := O_47.below hb
      replace M := M.below hb; clear hb; try clear v
      refine list_val F (F.wants 75 false rfl (by kernel_rfl) rfl true rfl) rfl rfl (.bool false) (ex_bin .eql _ _ _ _ rfl .i64 _ _ (F.e rfl) rfl _ (b_eql (beq_eq_false_iff_ne.2 hH))) ?_; clear F a; intro a F
      refine list_val F (F.wants 75 false rfl (by kernel_rfl) rfl true rfl) rfl rfl (.bool false) (ex_move _ rfl _ (F.e rfl)) ?_; clear F a; intro a F
      refine list_skip F (F.wants 79 false rfl (by kernel_rfl) rfl false rfl) rfl rfl ?_; clear F a; intro a F
      refine list_skip F (F.wants 79 false rfl (by kernel_rfl) rfl false rfl) rfl rfl ?_; clear F a; intro a F
      refine list_skip F (F.wants 79 false rfl (by kernel_rfl) rfl false rfl) rfl rfl ?_; clear F a; intro a F
      refine list_skip F (F.wants 79 false rfl (by kernel_rfl) rfl false rfl) rfl rfl ?_; clear F a; intro a F
      refine list_val F (F.wants 75 false rfl (by kernel_rfl) rfl true rfl) rfl rfl (.bool false) (ex_pick_f _ _ _ rfl (F.e rfl) _ rfl) ?_; clear F a; intro a F
      refine list_val F (wn rfl) rfl rfl (.bool false) (ex_pick_f _ _ _ rfl (F.e rfl) _ (F.e rfl)) ?_; clear F a; intro a F
      refine list_val F (wn rfl) rfl rfl (.bool false) (ex_move _ rfl _ (F.e rfl)) ?_; clear F a; intro a F
      refine list_val F (F.wants 86 false rfl (by kernel_rfl) rfl true rfl) rfl rfl (.int .i64 ((n10R s).2)) (ex_move _ rfl _ (F.e rfl)) ?_; clear F a; intro a F
      refine list_do (F.wants 86 false rfl (by kernel_rfl) rfl true rfl) (fun K hK => ?_)
      refine ow_call rfl rfl F 11 #[.int .i64 ((n10R s).2)] (ex_call 11 _ _ rfl rfl g4_ent_11 _ (map1 (F.e rfl))) (num_any ((n10R s).2) _) (fun e v hR => ?_)
      obtain ⟨he, hb⟩ := hR
      refine ⟨.int .i64 ((n10R s).2), he, ?_⟩; clear he F a; intro a F
      refine hK _ _ ?_
      clear hK K
      replace O_37 := O_37.below hb
      replace O_42 := O_42.below hb
      replace O_47 := O_47.below hb
      replace M := M.below hb; clear hb; try clear u
      refine list_val F (F.wants 86 false rfl (by kernel_rfl) rfl true rfl) rfl rfl (.bool true) (ex_bin .eql _ _ _ _ rfl .i64 _ _ (F.e rfl) rfl _ (b_eql (by rw [hN]; rfl))) ?_; clear F a; intro a F
      refine list_val F (F.wants 86 false rfl (by kernel_rfl) rfl true rfl) rfl rfl (.bool true) (ex_move _ rfl _ (F.e rfl)) ?_; clear F a; intro a F
      refine list_val F (F.wants 90 true rfl (by kernel_rfl) rfl true rfl) rfl rfl (.int .i64 ((n10R s).1)) (ex_move _ rfl _ (F.e rfl)) ?_; clear F a; intro a F
      refine list_do (F.wants 90 true rfl (by kernel_rfl) rfl true rfl) (fun K hK => ?_)
      refine ow_call rfl rfl F 18 #[.int .i64 ((n10R s).1)] (ex_call 18 _ _ rfl rfl g4_ent_18 _ (map1 (F.e rfl))) (text10_any (n10R s).1 hbd.1 hbd.2 _ (hE.below M.bel)) (fun e u hR => ?_)
      obtain ⟨he, hb⟩ := hR
      refine ⟨.string (ST.str (Lib.itoa (n10R s).1)), he, ?_⟩; clear he F a; intro a F
      refine hK _ _ ?_
      clear hK K
      replace O_37 := O_37.below hb
      replace O_42 := O_42.below hb
      replace O_47 := O_47.below hb
      replace M := M.below hb; clear hb; try clear v
      refine list_val F (F.wants 90 true rfl (by kernel_rfl) rfl true rfl) rfl rfl (.string (ST.str s)) (ex_move _ rfl _ (F.e rfl)) ?_; clear F a; intro a F
      refine list_val F (F.wants 90 true rfl (by kernel_rfl) rfl true rfl) rfl rfl (.bool false) (ST.ex_neqs _ _ _ _ rfl (Lib.itoa (n10R s).1) s (F.e rfl) (F.e rfl) false (by rw [decide_eq_true (n10_enc hN)]; rfl)) ?_; clear F a; intro a F
      refine list_val F (F.wants 86 false rfl (by kernel_rfl) rfl true rfl) rfl rfl (.bool false) (ex_pick_t _ _ _ rfl (F.e rfl) _ (F.e rfl)) ?_; clear F a; intro a F
      refine list_val F (wn rfl) rfl rfl (.bool false) (ex_pick_f _ _ _ rfl (F.e rfl) _ (F.e rfl)) ?_; clear F a; intro a F
      refine wpList_nil ?_
      replace F : Fr 139 a [(0, .slice (some ad) ls.length c), (2, .bool false), (3, .int .i64 ((al + s.length + 1 : Nat) : Int)), (4, .int .i64 ((i : Nat) : Int)), (5, .string (ST.str s)), (6, .slice A_37 (((rdR sUrl s (decide (s.length % 4 ≠ 1))).1).length) c_37), (7, .int .i64 ((rdR sUrl s (decide (s.length % 4 ≠ 1))).2)), (8, .slice A_42 (((rdR sPlain (trim2 s) (decide (s.length % 4 = 0))).1).length) c_42), (9, .int .i64 ((rdR sPlain (trim2 s) (decide (s.length % 4 = 0))).2)), (10, .slice A_47 (((b16R s).1).length) c_47), (11, .int .i64 ((b16R s).2)), (12, .int .i64 ((n10R s).1)), (13, .int .i64 ((n10R s).2)), (18, .bool true), (30, .bool false), (96, .bool false)] := F.keep ⟨rfl, rfl, rfl, rfl, rfl, rfl, rfl, rfl, rfl, rfl, rfl, rfl, rfl, rfl, rfl, rfl, trivial⟩
      refine then_n ?_
      refine wp_cond_false (F.e rfl) ?_
      refine wp_skip ?_
      refine only_n ?_
      exact ⟨F.keep ⟨rfl, rfl, rfl, rfl, rfl, rfl, rfl, rfl, rfl, rfl, rfl, rfl, rfl, rfl, rfl, trivial⟩, (by refine M.pick' [] _ ?_ (by decide); exact trivial)⟩
     refine wp_region_lit ?_
     refine list_val F (wn rfl) rfl rfl (.int .i64 ((rdR sUrl s (decide (s.length % 4 ≠ 1))).2)) (ex_move _ rfl _ (F.e rfl)) ?_; clear F a; intro a F
     refine list_do (wn rfl) (fun K hK => ?_)
     refine ow_call rfl rfl F 11 #[.int .i64 ((rdR sUrl s (decide (s.length % 4 ≠ 1))).2)] (ex_call 11 _ _ rfl rfl g4_ent_11 _ (map1 (F.e rfl))) (num_any ((rdR sUrl s (decide (s.length % 4 ≠ 1))).2) _) (fun e u hR => ?_)
     obtain ⟨he, hb⟩ := hR
     refine ⟨.int .i64 ((rdR sUrl s (decide (s.length % 4 ≠ 1))).2), he, ?_⟩; clear he F a; intro a F
     refine hK _ _ ?_
     clear hK K
     replace O_37 := O_37.below hb
     replace O_42 := O_42.below hb
     replace O_47 := O_47.below hb
     replace M := M.below hb; clear hb; try clear v
     refine list_val F (wn rfl) rfl rfl (.bool true) (ex_bin .eql _ _ _ _ rfl .i64 _ _ (F.e rfl) rfl _ (b_eql (by rw [hA]; rfl))) ?_; clear F a; intro a F
     refine list_val F (wn rfl) rfl rfl (.bool true) (ex_move _ rfl _ (F.e rfl)) ?_; clear F a; intro a F
     refine list_val F (F.wants 58 true rfl (by kernel_rfl) rfl true rfl) rfl rfl (.slice A_37 (((rdR sUrl s (decide (s.length % 4 ≠ 1))).1).length) c_37) (ex_move _ rfl _ (F.e rfl)) ?_; clear F a; intro a F
     refine list_do (F.wants 58 true rfl (by kernel_rfl) rfl true rfl) (fun K hK => ?_)
     refine ow_call rfl rfl F 7 #[.slice A_37 (((rdR sUrl s (decide (s.length % 4 ≠ 1))).1).length) c_37] (ex_call 7 _ _ rfl rfl g4_ent_7 _ (map1 (F.e rfl))) (text64_any ((rdR sUrl s (decide (s.length % 4 ≠ 1))).1) _ _ _ O_37.rd.1 O_37.rd.2.2 (by omega)) (fun e v hR => ?_)
     obtain ⟨he, hb⟩ := hR
     refine ⟨.string (ST.str (enc sUrl ((rdR sUrl s (decide (s.length % 4 ≠ 1))).1))), he, ?_⟩; clear he F a; intro a F
     refine hK _ _ ?_
     clear hK K
     replace O_37 := O_37.below hb
     replace O_42 := O_42.below hb
     replace O_47 := O_47.below hb
     replace M := M.below hb; clear hb; try clear u
     refine list_val F (F.wants 58 true rfl (by kernel_rfl) rfl true rfl) rfl rfl (.string (ST.str s)) (ex_move _ rfl _ (F.e rfl)) ?_; clear F a; intro a F
     refine list_val F (F.wants 58 true rfl (by kernel_rfl) rfl true rfl) rfl rfl (.bool false) (ST.ex_neqs _ _ _ _ rfl (enc sUrl ((rdR sUrl s (decide (s.length % 4 ≠ 1))).1)) s (F.e rfl) (F.e rfl) false (by rw [decide_eq_true (rd64_enc hA)]; rfl)) ?_; clear F a; intro a F
     refine list_val F (wn rfl) rfl rfl (.bool false) (ex_pick_t _ _ _ rfl (F.e rfl) _ (F.e rfl)) ?_; clear F a; intro a F
     refine list_val F (wn rfl) rfl rfl (.bool false) (ex_move _ rfl _ (F.e rfl)) ?_; clear F a; intro a F
     refine list_val F (F.wants 64 false rfl (by kernel_rfl) rfl true rfl) rfl rfl (.int .i64 ((rdR sPlain (trim2 s) (decide (s.length % 4 = 0))).2)) (ex_move _ rfl _ (F.e rfl)) ?_; clear F a; intro a F
     refine list_do (F.wants 64 false rfl (by kernel_rfl) rfl true rfl) (fun K hK => ?_)
     refine ow_call rfl rfl F 11 #[.int .i64 ((rdR sPlain (trim2 s) (decide (s.length % 4 = 0))).2)] (ex_call 11 _ _ rfl rfl g4_ent_11 _ (map1 (F.e rfl))) (num_any ((rdR sPlain (trim2 s) (decide (s.length % 4 = 0))).2) _) (fun e u hR => ?_)
     obtain ⟨he, hb⟩ := hR
     refine ⟨.int .i64 ((rdR sPlain (trim2 s) (decide (s.length % 4 = 0))).2), he, ?_⟩; clear he F a; intro a F
     refine hK _ _ ?_
     clear hK K
     replace O_37 := O_37.below hb
     replace O_42 := O_42.below hb
     replace O_47 := O_47.below hb
     replace M := M.below hb; clear hb; try clear v
     refine list_val F (F.wants 64 false rfl (by kernel_rfl) rfl true rfl) rfl rfl (.bool true) (ex_bin .eql _ _ _ _ rfl .i64 _ _ (F.e rfl) rfl _ (b_eql (by rw [hP]; rfl))) ?_; clear F a; intro a F
     refine list_val F (F.wants 64 false rfl (by kernel_rfl) rfl true rfl) rfl rfl (.bool true) (ex_move _ rfl _ (F.e rfl)) ?_; clear F a; intro a F
     refine list_val F (F.wants 68 true rfl (by kernel_rfl) rfl true rfl) rfl rfl (.slice A_42 (((rdR sPlain (trim2 s) (decide (s.length % 4 = 0))).1).length) c_42) (ex_move _ rfl _ (F.e rfl)) ?_; clear F a; intro a F
     refine list_do (F.wants 68 true rfl (by kernel_rfl) rfl true rfl) (fun K hK => ?_)
     refine ow_call rfl rfl F 8 #[.slice A_42 (((rdR sPlain (trim2 s) (decide (s.length % 4 = 0))).1).length) c_42] (ex_call 8 _ _ rfl rfl g4_ent_8 _ (map1 (F.e rfl))) (textPad_any ((rdR sPlain (trim2 s) (decide (s.length % 4 = 0))).1) _ _ _ O_42.rd.1 O_42.rd.2.2 (by omega)) (fun e v hR => ?_)
     obtain ⟨he, hb⟩ := hR
     refine ⟨.string (ST.str (encPad ((rdR sPlain (trim2 s) (decide (s.length % 4 = 0))).1))), he, ?_⟩; clear he F a; intro a F
     refine hK _ _ ?_
     clear hK K
     replace O_37 := O_37.below hb
     replace O_42 := O_42.below hb
     replace O_47 := O_47.below hb
     replace M := M.below hb; clear hb; try clear u
     refine list_val F (F.wants 68 true rfl (by kernel_rfl) rfl true rfl) rfl rfl (.string (ST.str s)) (ex_move _ rfl _ (F.e rfl)) ?_; clear F a; intro a F
     refine list_val F (F.wants 68 true rfl (by kernel_rfl) rfl true rfl) rfl rfl (.bool false) (ST.ex_neqs _ _ _ _ rfl (encPad ((rdR sPlain (trim2 s) (decide (s.length % 4 = 0))).1)) s (F.e rfl) (F.e rfl) false (by rw [decide_eq_true (rdPad_enc hP)]; rfl)) ?_; clear F a; intro a F
     refine list_val F (F.wants 64 false rfl (by kernel_rfl) rfl true rfl) rfl rfl (.bool false) (ex_pick_t _ _ _ rfl (F.e rfl) _ (F.e rfl)) ?_; clear F a; intro a F
     refine list_val F (wn rfl) rfl rfl (.bool false) (ex_pick_f _ _ _ rfl (F.e rfl) _ (F.e rfl)) ?_; clear F a; intro a F
     refine list_val F (wn rfl) rfl rfl (.bool false) (ex_move _ rfl _ (F.e rfl)) ?_; clear F a; intro a F
     refine list_val F (F.wants 75 false rfl (by kernel_rfl) rfl true rfl) rfl rfl (.int .i64 ((b16R s).2)) (ex_move _ rfl _ (F.e rfl)) ?_; clear F a; intro a F
     refine list_do (F.wants 75 false rfl (by kernel_rfl) rfl true rfl) (fun K hK => ?_)
     refine ow_call rfl rfl F 11 #[.int .i64 ((b16R s).2)] (ex_call 11 _ _ rfl rfl g4_ent_11 _ (map1 (F.e rfl))) (num_any ((b16R s).2) _) (fun e u hR => ?_)
     obtain ⟨he, hb⟩ := hR
     refine ⟨.int .i64 ((b16R s).2), he, ?_⟩; clear he F a; intro a F
     refine hK _ _ ?_
     clear hK K
     replace O_37 := O_37.below hb
     replace O_42 := O_42.below hb
     replace O_47 := O_47.below hb
     replace M := M.below hb; clear hb; try clear v
     refine list_val F (F.wants 75 false rfl (by kernel_rfl) rfl true rfl) rfl rfl (.bool false) (ex_bin .eql _ _ _ _ rfl .i64 _ _ (F.e rfl) rfl _ (b_eql (beq_eq_false_iff_ne.2 hH))) ?_; clear F a; intro a F
     refine list_val F (F.wants 75 false rfl (by kernel_rfl) rfl true rfl) rfl rfl (.bool false) (ex_move _ rfl _ (F.e rfl)) ?_; clear F a; intro a F
     refine list_skip F (F.wants 79 false rfl (by kernel_rfl) rfl false rfl) rfl rfl ?_; clear F a; intro a F
     refine list_skip F (F.wants 79 false rfl (by kernel_rfl) rfl false rfl) rfl rfl ?_; clear F a; intro a F
     refine list_skip F (F.wants 79 false rfl (by kernel_rfl) rfl false rfl) rfl rfl ?_; clear F a; intro a F
     refine list_skip F (F.wants 79 false rfl (by kernel_rfl) rfl false rfl) rfl rfl ?_; clear F a; intro a F
     refine list_val F (F.wants 75 false rfl (by kernel_rfl) rfl true rfl) rfl rfl (.bool false) (ex_pick_f _ _ _ rfl (F.e rfl) _ rfl) ?_; clear F a; intro a F
     refine list_val F (wn rfl) rfl rfl (.bool false) (ex_pick_f _ _ _ rfl (F.e rfl) _ (F.e rfl)) ?_; clear F a; intro a F
     refine list_val F (wn rfl) rfl rfl (.bool false) (ex_move _ rfl _ (F.e rfl)) ?_; clear F a; intro a F
     refine list_val F (F.wants 86 false rfl (by kernel_rfl) rfl true rfl) rfl rfl (.int .i64 ((n10R s).2)) (ex_move _ rfl _ (F.e rfl)) ?_; clear F a; intro a F
     refine list_do (F.wants 86 false rfl (by kernel_rfl) rfl true rfl) (fun K hK => ?_)
     refine ow_call rfl rfl F 11 #[.int .i64 ((n10R s).2)] (ex_call 11 _ _ rfl rfl g4_ent_11 _ (map1 (F.e rfl))) (num_any ((n10R s).2) _) (fun e v hR => ?_)
     obtain ⟨he, hb⟩ := hR
     refine ⟨.int .i64 ((n10R s).2), he, ?_⟩; clear he F a; intro a F
     refine hK _ _ ?_
     clear hK K
     replace O_37 := O_37.below hb
     replace O_42 := O_42.below hb
     replace O_47 := O_47.below hb
     replace M := M.below hb; clear hb; try clear u
     refine list_val F (F.wants 86 false rfl (by kernel_rfl) rfl true rfl) rfl rfl (.bool false) (ex_bin .eql _ _ _ _ rfl .i64 _ _ (F.e rfl) rfl _ (b_eql (beq_eq_false_iff_ne.2 hN))) ?_; clear F a; intro a F
     refine list_val F (F.wants 86 false rfl (by kernel_rfl) rfl true rfl) rfl rfl (.bool false) (ex_move _ rfl _ (F.e rfl)) ?_; clear F a; intro a F
     refine list_skip F (F.wants 90 false rfl (by kernel_rfl) rfl false rfl) rfl rfl ?_; clear F a; intro a F
     refine list_skip F (F.wants 90 false rfl (by kernel_rfl) rfl false rfl) rfl rfl ?_; clear F a; intro a F
     refine list_skip F (F.wants 90 false rfl (by kernel_rfl) rfl false rfl) rfl rfl ?_; clear F a; intro a F
     refine list_skip F (F.wants 90 false rfl (by kernel_rfl) rfl false rfl) rfl rfl ?_; clear F a; intro a F
     refine list_val F (F.wants 86 false rfl (by kernel_rfl) rfl true rfl) rfl rfl (.bool false) (ex_pick_f _ _ _ rfl (F.e rfl) _ rfl) ?_; clear F a; intro a F
     refine list_val F (wn rfl) rfl rfl (.bool false) (ex_pick_f _ _ _ rfl (F.e rfl) _ (F.e rfl)) ?_; clear F a; intro a F
     refine wpList_nil ?_
     replace F : Fr 139 a [(0, .slice (some ad) ls.length c), (2, .bool false), (3, .int .i64 ((al + s.length + 1 : Nat) : Int)), (4, .int .i64 ((i : Nat) : Int)), (5, .string (ST.str s)), (6, .slice A_37 (((rdR sUrl s (decide (s.length % 4 ≠ 1))).1).length) c_37), (7, .int .i64 ((rdR sUrl s (decide (s.length % 4 ≠ 1))).2)), (8, .slice A_42 (((rdR sPlain (trim2 s) (decide (s.length % 4 = 0))).1).length) c_42), (9, .int .i64 ((rdR sPlain (trim2 s) (decide (s.length % 4 = 0))).2)), (10, .slice A_47 (((b16R s).1).length) c_47), (11, .int .i64 ((b16R s).2)), (12, .int .i64 ((n10R s).1)), (13, .int .i64 ((n10R s).2)), (18, .bool true), (30, .bool false), (96, .bool false)] := F.keep ⟨rfl, rfl, rfl, rfl, rfl, rfl, rfl, rfl, rfl, rfl, rfl, rfl, rfl, rfl, rfl, rfl, trivial⟩
     refine then_n ?_
     refine wp_cond_false (F.e rfl) ?_
     refine wp_skip ?_
     refine only_n ?_
     exact ⟨F.keep ⟨rfl, rfl, rfl, rfl, rfl, rfl, rfl, rfl, rfl, rfl, rfl, rfl, rfl, rfl, rfl, trivial⟩, (by refine M.pick' [] _ ?_ (by decide); exact trivial)⟩
    by_cases hH : (b16R s).2 = 0
    ·
     by_cases hN : (n10R s).2 = 0
     ·
      refine wp_region_lit ?_
      refine list_val F (wn rfl) rfl rfl (.int .i64 ((rdR sUrl s (decide (s.length % 4 ≠ 1))).2)) (ex_move _ rfl _ (F.e rfl)) ?_; clear F a; intro a F
      refine list_do (wn rfl) (fun K hK => ?_)
      refine ow_call rfl rfl F 11 #[.int .i64 ((rdR sUrl s (decide (s.length % 4 ≠ 1))).2)] (ex_call 11 _ _ rfl rfl g4_ent_11 _ (map1 (F.e rfl))) (num_any ((rdR sUrl s (decide (s.length % 4 ≠ 1))).2) _) (fun e u hR => ?_)
      obtain ⟨he, hb⟩ := hR
      refine ⟨.int .i64 ((rdR sUrl s (decide (s.length % 4 ≠ 1))).2), he, ?_⟩; clear he F a; intro a F
      refine hK _ _ ?_
      clear hK K
      replace O_37 := O_37.below hb
      replace O_42 := O_42.below hb
      replace O_47 := O_47.below hb
      replace M := M.below hb; clear hb; try clear v
      refine list_val F (wn rfl) rfl rfl (.bool true) (ex_bin .eql _ _ _ _ rfl .i64 _ _ (F.e rfl) rfl _ (b_eql (by rw [hA]; rfl))) ?_; clear F a; intro a F
      refine list_val F (wn rfl) rfl rfl (.bool true) (ex_move _ rfl _ (F.e rfl)) ?_; clear F a; intro a F
      refine list_val F (F.wants 58 true rfl (by kernel_rfl) rfl true rfl) rfl rfl (.slice A_37 (((rdR sUrl s (decide (s.length % 4 ≠ 1))).1).length) c_37) (ex_move _ rfl _ (F.e rfl)) ?_; clear F a; intro a F
      refine list_do (F.wants 58 true rfl (by kernel_rfl) rfl true rfl) (fun K hK => ?_)
      refine ow_call rfl rfl F 7 #[.slice A_37 (((rdR sUrl s (decide (s.length % 4 ≠ 1))).1).length) c_37] (ex_call 7 _ _ rfl rfl g4_ent_7 _ (map1 (F.e rfl))) (text64_any ((rdR sUrl s (decide (s.length % 4 ≠ 1))).1) _ _ _ O_37.rd.1 O_37.rd.2.2 (by omega)) (fun e v hR => ?_)
      obtain ⟨he, hb⟩ := hR
      refine ⟨.string (ST.str (enc sUrl ((rdR sUrl s (decide (s.length % 4 ≠ 1))).1))), he, ?_⟩; clear he F a; intro a F
      refine hK _ _ ?_
      clear hK K
      replace O_37 := O_37.below hb
      replace O_42 := O_42.below hb
      replace O_47 := O_47.below hb
      replace M := M.below hb; clear hb; try clear u
      refine list_val F (F.wants 58 true rfl (by kernel_rfl) rfl true rfl) rfl rfl (.string (ST.str s)) (ex_move _ rfl _ (F.e rfl)) ?_; clear F a; intro a F
      refine list_val F (F.wants 58 true rfl (by kernel_rfl) rfl true rfl) rfl rfl (.bool false) (ST.ex_neqs _ _ _ _ rfl (enc sUrl ((rdR sUrl s (decide (s.length % 4 ≠ 1))).1)) s (F.e rfl) (F.e rfl) false (by rw [decide_eq_true (rd64_enc hA)]; rfl)) ?_; clear F a; intro a F
      refine list_val F (wn rfl) rfl rfl (.bool false) (ex_pick_t _ _ _ rfl (F.e rfl) _ (F.e rfl)) ?_; clear F a; intro a F
      refine list_val F (wn rfl) rfl rfl (.bool false) (ex_move _ rfl _ (F.e rfl)) ?_; clear F a; intro a F
      refine list_val F (F.wants 64 false rfl (by kernel_rfl) rfl true rfl) rfl rfl (.int .i64 ((rdR sPlain (trim2 s) (decide (s.length % 4 = 0))).2)) (ex_move _ rfl _ (F.e rfl)) ?_; clear F a; intro a F
      refine list_do (F.wants 64 false rfl (by kernel_rfl) rfl true rfl) (fun K hK => ?_)
      refine ow_call rfl rfl F 11 #[.int .i64 ((rdR sPlain (trim2 s) (decide (s.length % 4 = 0))).2)] (ex_call 11 _ _ rfl rfl g4_ent_11 _ (map1 (F.e rfl))) (num_any ((rdR sPlain (trim2 s) (decide (s.length % 4 = 0))).2) _) (fun e u hR => ?_)
      obtain ⟨he, hb⟩ := hR
      refine ⟨.int .i64 ((rdR sPlain (trim2 s) (decide (s.length % 4 = 0))).2), he, ?_⟩; clear he F a; intro a F
      refine hK _ _ ?_
      clear hK K
      replace O_37 := O_37.below hb
      replace O_42 := O_42.below hb
      replace O_47 := O_47.below hb
      replace M := M.below hb; clear hb; try clear v
      refine list_val F (F.wants 64 false rfl (by kernel_rfl) rfl true rfl) rfl rfl (.bool false) (ex_bin .eql _ _ _ _ rfl .i64 _ _ (F.e rfl) rfl _ (b_eql (beq_eq_false_iff_ne.2 hP))) ?_; clear F a; intro a F
      refine list_val F (F.wants 64 false rfl (by kernel_rfl) rfl true rfl) rfl rfl (.bool false) (ex_move _ rfl _ (F.e rfl)) ?_; clear F a; intro a F
      refine list_skip F (F.wants 68 false rfl (by kernel_rfl) rfl false rfl) rfl rfl ?_; clear F a; intro a F
      refine list_skip F (F.wants 68 false rfl (by kernel_rfl) rfl false rfl) rfl rfl ?_; clear F a; intro a F
      refine list_skip F (F.wants 68 false rfl (by kernel_rfl) rfl false rfl) rfl rfl ?_; clear F a; intro a F
      refine list_skip F (F.wants 68 false rfl (by kernel_rfl) rfl false rfl) rfl rfl ?_; clear F a; intro a F
      refine list_val F (F.wants 64 false rfl (by kernel_rfl) rfl true rfl) rfl rfl (.bool false) (ex_pick_f _ _ _ rfl (F.e rfl) _ rfl) ?_; clear F a; intro a F
      refine list_val F (wn rfl) rfl rfl (.bool false) (ex_pick_f _ _ _ rfl (F.e rfl) _ (F.e rfl)) ?_; clear F a; intro a F
      refine list_val F (wn rfl) rfl rfl (.bool false) (ex_move _ rfl _ (F.e rfl)) ?_; clear F a; intro a F
      refine list_val F (F.wants 75 false rfl (by kernel_rfl) rfl true rfl) rfl rfl (.int .i64 ((b16R s).2)) (ex_move _ rfl _ (F.e rfl)) ?_; clear F a; intro a F
      refine list_do (F.wants 75 false rfl (by kernel_rfl) rfl true rfl) (fun K hK => ?_)
      refine ow_call rfl rfl F 11 #[.int .i64 ((b16R s).2)] (ex_call 11 _ _ rfl rfl g4_ent_11 _ (map1 (F.e rfl))) (num_any ((b16R s).2) _) (fun e v hR => ?_)
      obtain ⟨he, hb⟩ := hR
      refine ⟨.int .i64 ((b16R s).2), he, ?_⟩; clear he F a; intro a F
      refine hK _ _ ?_
      clear hK K
      replace O_37 := O_37.below hb
      replace O_42 := O_42.below hb
      replace O_47 := O_47.below hb
      replace M := M.below hb; clear hb; try clear u
      refine list_val F (F.wants 75 false rfl (by kernel_rfl) rfl true rfl) rfl rfl (.bool true) (ex_bin .eql _ _ _ _ rfl .i64 _ _ (F.e rfl) rfl _ (b_eql (by rw [hH]; rfl))) ?_; clear F a; intro a F
      refine list_val F (F.wants 75 false rfl (by kernel_rfl) rfl true rfl) rfl rfl (.bool true) (ex_move _ rfl _ (F.e rfl)) ?_; clear F a; intro a F
      refine list_val F (F.wants 79 true rfl (by kernel_rfl) rfl true rfl) rfl rfl (.slice A_47 (((b16R s).1).length) c_47) (ex_move _ rfl _ (F.e rfl)) ?_; clear F a; intro a F
      refine list_do (F.wants 79 true rfl (by kernel_rfl) rfl true rfl) (fun K hK => ?_)
      refine ow_call rfl rfl F 6 #[.slice A_47 (((b16R s).1).length) c_47] (ex_call 6 _ _ rfl rfl g4_ent_6 _ (map1 (F.e rfl))) (text16_any ((b16R s).1) _ _ _ O_47.rd.1 O_47.rd.2.2 (by omega)) (fun e u hR => ?_)
      obtain ⟨he, hb⟩ := hR
      refine ⟨.string (ST.str (hex16 ((b16R s).1))), he, ?_⟩; clear he F a; intro a F
      refine hK _ _ ?_
      clear hK K
      replace O_37 := O_37.below hb
      replace O_42 := O_42.below hb
      replace O_47 := O_47.below hb
      replace M := M.below hb; clear hb; try clear v
      refine list_val F (F.wants 79 true rfl (by kernel_rfl) rfl true rfl) rfl rfl (.string (ST.str s)) (ex_move _ rfl _ (F.e rfl)) ?_; clear F a; intro a F
      refine list_val F (F.wants 79 true rfl (by kernel_rfl) rfl true rfl) rfl rfl (.bool false) (ST.ex_neqs _ _ _ _ rfl (hex16 ((b16R s).1)) s (F.e rfl) (F.e rfl) false (by rw [decide_eq_true (b16_enc hH)]; rfl)) ?_; clear F a; intro a F
      refine list_val F (F.wants 75 false rfl (by kernel_rfl) rfl true rfl) rfl rfl (.bool false) (ex_pick_t _ _ _ rfl (F.e rfl) _ (F.e rfl)) ?_; clear F a; intro a F
      refine list_val F (wn rfl) rfl rfl (.bool false) (ex_pick_f _ _ _ rfl (F.e rfl) _ (F.e rfl)) ?_; clear F a; intro a F
      refine list_val F (wn rfl) rfl rfl (.bool false) (ex_move _ rfl _ (F.e rfl)) ?_; clear F a; intro a F
      refine list_val F (F.wants 86 false rfl (by kernel_rfl) rfl true rfl) rfl rfl (.int .i64 ((n10R s).2)) (ex_move _ rfl _ (F.e rfl)) ?_; clear F a; intro a F
      refine list_do (F.wants 86 false rfl (by kernel_rfl) rfl true rfl) (fun K hK => ?_)
      refine ow_call rfl rfl F 11 #[.int .i64 ((n10R s).2)] (ex_call 11 _ _ rfl rfl g4_ent_11 _ (map1 (F.e rfl))) (num_any ((n10R s).2) _) (fun e v hR => ?_)
      obtain ⟨he, hb⟩ := hR
      refine ⟨.int .i64 ((n10R s).2), he, ?_⟩; clear he F a; intro a F
      refine hK _ _ ?_
      clear hK K
      replace O_37 := O_37.below hb
      replace O_42 := O_42.below hb
      replace O_47 := O_47.below hb
      replace M := M.below hb; clear hb; try clear u
      refine list_val F (F.wants 86 false rfl (by kernel_rfl) rfl true rfl) rfl rfl (.bool true) (ex_bin .eql _ _ _ _ rfl .i64 _ _ (F.e rfl) rfl _ (b_eql (by rw [hN]; rfl))) ?_; clear F a; intro a F
      refine list_val F (F.wants 86 false rfl (by kernel_rfl) rfl true rfl) rfl rfl (.bool true) (ex_move _ rfl _ (F.e rfl)) ?_; clear F a; intro a F
      refine list_val F (F.wants 90 true rfl (by kernel_rfl) rfl true rfl) rfl rfl (.int .i64 ((n10R s).1)) (ex_move _ rfl _ (F.e rfl)) ?_; clear F a; intro a F
      refine list_do (F.wants 90 true rfl (by kernel_rfl) rfl true rfl) (fun K hK => ?_)
      refine ow_call rfl rfl F 18 #[.int .i64 ((n10R s).1)] (ex_call 18 _ _ rfl rfl g4_ent_18 _ (map1 (F.e rfl))) (text10_any (n10R s).1 hbd.1 hbd.2 _ (hE.below M.bel)) (fun e u hR => ?_)
      obtain ⟨he, hb⟩ := hR
      refine ⟨.string (ST.str (Lib.itoa (n10R s).1)), he, ?_⟩; clear he F a; intro a F
      refine hK _ _ ?_
      clear hK K
      replace O_37 := O_37.below hb
      replace O_42 := O_42.below hb
      replace O_47 := O_47.below hb
      replace M := M.below hb; clear hb; try clear v
      refine list_val F (F.wants 90 true rfl (by kernel_rfl) rfl true rfl) rfl rfl (.string (ST.str s)) (ex_move _ rfl _ (F.e rfl)) ?_; clear F a; intro a F
      refine list_val F (F.wants 90 true rfl (by kernel_rfl) rfl true rfl) rfl rfl (.bool false) (ST.ex_neqs _ _ _ _ rfl (Lib.itoa (n10R s).1) s (F.e rfl) (F.e rfl) false (by rw [decide_eq_true (n10_enc hN)]; rfl)) ?_; clear F a; intro a F
      refine list_val F (F.wants 86 false rfl (by kernel_rfl) rfl true rfl) rfl rfl (.bool false) (ex_pick_t _ _ _ rfl (F.e rfl) _ (F.e rfl)) ?_; clear F a; intro a F
      refine list_val F (wn rfl) rfl rfl (.bool false) (ex_pick_f _ _ _ rfl (F.e rfl) _ (F.e rfl)) ?_; clear F a; intro a F
      refine wpList_nil ?_
      replace F : Fr 139 a [(0, .slice (some ad) ls.length c), (2, .bool false), (3, .int .i64 ((al + s.length + 1 : Nat) : Int)), (4, .int .i64 ((i : Nat) : Int)), (5, .string (ST.str s)), (6, .slice A_37 (((rdR sUrl s (decide (s.length % 4 ≠ 1))).1).length) c_37), (7, .int .i64 ((rdR sUrl s (decide (s.length % 4 ≠ 1))).2)), (8, .slice A_42 (((rdR sPlain (trim2 s) (decide (s.length % 4 = 0))).1).length) c_42), (9, .int .i64 ((rdR sPlain (trim2 s) (decide (s.length % 4 = 0))).2)), (10, .slice A_47 (((b16R s).1).length) c_47), (11, .int .i64 ((b16R s).2)), (12, .int .i64 ((n10R s).1)), (13, .int .i64 ((n10R s).2)), (18, .bool true), (30, .bool false), (96, .bool false)] := F.keep ⟨rfl, rfl, rfl, rfl, rfl, rfl, rfl, rfl, rfl, rfl, rfl, rfl, rfl, rfl, rfl, rfl, trivial⟩
      refine then_n ?_
      refine wp_cond_false (F.e rfl) ?_
      refine wp_skip ?_
      refine only_n ?_
      exact ⟨F.keep ⟨rfl, rfl, rfl, rfl, rfl, rfl, rfl, rfl, rfl, rfl, rfl, rfl, rfl, rfl, rfl, trivial⟩, (by refine M.pick' [] _ ?_ (by decide); exact trivial)⟩
     refine wp_region_lit ?_
     refine list_val F (wn rfl) rfl rfl (.int .i64 ((rdR sUrl s (decide (s.length % 4 ≠ 1))).2)) (ex_move _ rfl _ (F.e rfl)) ?_; clear F a; intro a F
     refine list_do (wn rfl) (fun K hK => ?_)
     refine ow_call rfl rfl F 11 #[.int .i64 ((rdR sUrl s (decide (s.length % 4 ≠ 1))).2)] (ex_call 11 _ _ rfl rfl g4_ent_11 _ (map1 (F.e rfl))) (num_any ((rdR sUrl s (decide (s.length % 4 ≠ 1))).2) _) (fun e u hR => ?_)
     obtain ⟨he, hb⟩ := hR
     refine ⟨.int .i64 ((rdR sUrl s (decide (s.length % 4 ≠ 1))).2), he, ?_⟩; clear he F a; intro a F
     refine hK _ _ ?_
     clear hK K
     replace O_37 := O_37.below hb
     replace O_42 := O_42.below hb
     replace O_47 := O_47.below hb
     replace M := M.below hb; clear hb; try clear v
     refine list_val F (wn rfl) rfl rfl (.bool true) (ex_bin .eql _ _ _ _ rfl .i64 _ _ (F.e rfl) rfl _ (b_eql (by rw [hA]; rfl))) ?_; clear F a; intro a F
     refine list_val F (wn rfl) rfl rfl (.bool true) (ex_move _ rfl _ (F.e rfl)) ?_; clear F a; intro a F
     refine list_val F (F.wants 58 true rfl (by kernel_rfl) rfl true rfl) rfl rfl (.slice A_37 (((rdR sUrl s (decide (s.length % 4 ≠ 1))).1).length) c_37) (ex_move _ rfl _ (F.e rfl)) ?_; clear F a; intro a F
     refine list_do (F.wants 58 true rfl (by kernel_rfl) rfl true rfl) (fun K hK => ?_)
     refine ow_call rfl rfl F 7 #[.slice A_37 (((rdR sUrl s (decide (s.length % 4 ≠ 1))).1).length) c_37] (ex_call 7 _ _ rfl rfl g4_ent_7 _ (map1 (F.e rfl))) (text64_any ((rdR sUrl s (decide (s.length % 4 ≠ 1))).1) _ _ _ O_37.rd.1 O_37.rd.2.2 (by omega)) (fun e v hR => ?_)
     obtain ⟨he, hb⟩ := hR
     refine ⟨.string (ST.str (enc sUrl ((rdR sUrl s (decide (s.length % 4 ≠ 1))).1))), he, ?_⟩; clear he F a; intro a F
     refine hK _ _ ?_
     clear hK K
     replace O_37 := O_37.below hb
     replace O_42 := O_42.below hb
     replace O_47 := O_47.below hb
     replace M := M.below hb; clear hb; try clear u
     refine list_val F (F.wants 58 true rfl (by kernel_rfl) rfl true rfl) rfl rfl (.string (ST.str s)) (ex_move _ rfl _ (F.e rfl)) ?_; clear F a; intro a F
     refine list_val F (F.wants 58 true rfl (by kernel_rfl) rfl true rfl) rfl rfl (.bool false) (ST.ex_neqs _ _ _ _ rfl (enc sUrl ((rdR sUrl s (decide (s.length % 4 ≠ 1))).1)) s (F.e rfl) (F.e rfl) false (by rw [decide_eq_true (rd64_enc hA)]; rfl)) ?_; clear F a; intro a F
     refine list_val F (wn rfl) rfl rfl (.bool false) (ex_pick_t _ _ _ rfl (F.e rfl) _ (F.e rfl)) ?_; clear F a; intro a F
     refine list_val F (wn rfl) rfl rfl (.bool false) (ex_move _ rfl _ (F.e rfl)) ?_; clear F a; intro a F
     refine list_val F (F.wants 64 false rfl (by kernel_rfl) rfl true rfl) rfl rfl (.int .i64 ((rdR sPlain (trim2 s) (decide (s.length % 4 = 0))).2)) (ex_move _ rfl _ (F.e rfl)) ?_; clear F a; intro a F
     refine list_do (F.wants 64 false rfl (by kernel_rfl) rfl true rfl) (fun K hK => ?_)
     refine ow_call rfl rfl F 11 #[.int .i64 ((rdR sPlain (trim2 s) (decide (s.length % 4 = 0))).2)] (ex_call 11 _ _ rfl rfl g4_ent_11 _ (map1 (F.e rfl))) (num_any ((rdR sPlain (trim2 s) (decide (s.length % 4 = 0))).2) _) (fun e u hR => ?_)
     obtain ⟨he, hb⟩ := hR
     refine ⟨.int .i64 ((rdR sPlain (trim2 s) (decide (s.length % 4 = 0))).2), he, ?_⟩; clear he F a; intro a F
     refine hK _ _ ?_
     clear hK K
     replace O_37 := O_37.below hb
     replace O_42 := O_42.below hb
     replace O_47 := O_47.below hb
     replace M := M.below hb; clear hb; try clear v
     refine list_val F (F.wants 64 false rfl (by kernel_rfl) rfl true rfl) rfl rfl (.bool false) (ex_bin .eql _ _ _ _ rfl .i64 _ _ (F.e rfl) rfl _ (b_eql (beq_eq_false_iff_ne.2 hP))) ?_; clear F a; intro a F
     refine list_val F (F.wants 64 false rfl (by kernel_rfl) rfl true rfl) rfl rfl (.bool false) (ex_move _ rfl _ (F.e rfl)) ?_; clear F a; intro a F
     refine list_skip F (F.wants 68 false rfl (by kernel_rfl) rfl false rfl) rfl rfl ?_; clear F a; intro a F
     refine list_skip F (F.wants 68 false rfl (by kernel_rfl) rfl false rfl) rfl rfl ?_; clear F a; intro a F
     refine list_skip F (F.wants 68 false rfl (by kernel_rfl) rfl false rfl) rfl rfl ?_; clear F a; intro a F
     refine list_skip F (F.wants 68 false rfl (by kernel_rfl) rfl false rfl) rfl rfl ?_; clear F a; intro a F
     refine list_val F (F.wants 64 false rfl (by kernel_rfl) rfl true rfl) rfl rfl (.bool false) (ex_pick_f _ _ _ rfl (F.e rfl) _ rfl) ?_; clear F a; intro a F
     refine list_val F (wn rfl) rfl rfl (.bool false) (ex_pick_f _ _ _ rfl (F.e rfl) _ (F.e rfl)) ?_; clear F a; intro a F
     refine list_val F (wn rfl) rfl rfl (.bool false) (ex_move _ rfl _ (F.e rfl)) ?_; clear F a; intro a F
     refine list_val F (F.wants 75 false rfl (by kernel_rfl) rfl true rfl) rfl rfl (.int .i64 ((b16R s).2)) (ex_move _ rfl _ (F.e rfl)) ?_; clear F a; intro a F
     refine list_do (F.wants 75 false rfl (by kernel_rfl) rfl true rfl) (fun K hK => ?_)
     refine ow_call rfl rfl F 11 #[.int .i64 ((b16R s).2)] (ex_call 11 _ _ rfl rfl g4_ent_11 _ (map1 (F.e rfl))) (num_any ((b16R s).2) _) (fun e v hR => ?_)
     obtain ⟨he, hb⟩ := hR
     refine ⟨.int .i64 ((b16R s).2), he, ?_⟩; clear he F a; intro a F
     refine hK _ _ ?_
     clear hK K
     replace O_37 := O_37.below hb
     replace O_42 := O_42.below hb
     replace O_47 := O_47.below hb
     replace M := M.below hb; clear hb; try clear u
     refine list_val F (F.wants 75 false rfl (by kernel_rfl) rfl true rfl) rfl rfl (.bool true) (ex_bin .eql _ _ _ _ rfl .i64 _ _ (F.e rfl) rfl _ (b_eql (by rw [hH]; rfl))) ?_; clear F a; intro a F
     refine list_val F (F.wants 75 false rfl (by kernel_rfl) rfl true rfl) rfl rfl (.bool true) (ex_move _ rfl _ (F.e rfl)) ?_; clear F a; intro a F
     refine list_val F (F.wants 79 true rfl (by kernel_rfl) rfl true rfl) rfl rfl (.slice A_47 (((b16R s).1).length) c_47) (ex_move _ rfl _ (F.e rfl)) ?_; clear F a; intro a F
     refine list_do (F.wants 79 true rfl (by kernel_rfl) rfl true rfl) (fun K hK => ?_)
     refine ow_call rfl rfl F 6 #[.slice A_47 (((b16R s).1).length) c_47] (ex_call 6 _ _ rfl rfl g4_ent_6 _ (map1 (F.e rfl))) (text16_any ((b16R s).1) _ _ _ O_47.rd.1 O_47.rd.2.2 (by omega)) (fun e u hR => ?_)
     obtain ⟨he, hb⟩ := hR
     refine ⟨.string (ST.str (hex16 ((b16R s).1))), he, ?_⟩; clear he F a; intro a F
     refine hK _ _ ?_
     clear hK K
     replace O_37 := O_37.below hb
     replace O_42 := O_42.below hb
     replace O_47 := O_47.below hb
     replace M := M.below hb; clear hb; try clear v
     refine list_val F (F.wants 79 true rfl (by kernel_rfl) rfl true rfl) rfl rfl (.string (ST.str s)) (ex_move _ rfl _ (F.e rfl)) ?_; clear F a; intro a F
     refine list_val F (F.wants 79 true rfl (by kernel_rfl) rfl true rfl) rfl rfl (.bool false) (ST.ex_neqs _ _ _ _ rfl (hex16 ((b16R s).1)) s (F.e rfl) (F.e rfl) false (by rw [decide_eq_true (b16_enc hH)]; rfl)) ?_; clear F a; intro a F
     refine list_val F (F.wants 75 false rfl (by kernel_rfl) rfl true rfl) rfl rfl (.bool false) (ex_pick_t _ _ _ rfl (F.e rfl) _ (F.e rfl)) ?_; clear F a; intro a F
     refine list_val F (wn rfl) rfl rfl (.bool false) (ex_pick_f _ _ _ rfl (F.e rfl) _ (F.e rfl)) ?_; clear F a; intro a F
     refine list_val F (wn rfl) rfl rfl (.bool false) (ex_move _ rfl _ (F.e rfl)) ?_; clear F a; intro a F
     refine list_val F (F.wants 86 false rfl (by kernel_rfl) rfl true rfl) rfl rfl (.int .i64 ((n10R s).2)) (ex_move _ rfl _ (F.e rfl)) ?_; clear F a; intro a F
     refine list_do (F.wants 86 false rfl (by kernel_rfl) rfl true rfl) (fun K hK => ?_)
     refine ow_call rfl rfl F 11 #[.int .i64 ((n10R s).2)] (ex_call 11 _ _ rfl rfl g4_ent_11 _ (map1 (F.e rfl))) (num_any ((n10R s).2) _) (fun e v hR => ?_)
     obtain ⟨he, hb⟩ := hR
     refine ⟨.int .i64 ((n10R s).2), he, ?_⟩; clear he F a; intro a F
     refine hK _ _ ?_
     clear hK K
     replace O_37 := O_37.below hb
     replace O_42 := O_42.below hb
     replace O_47 := O_47.below hb
     replace M := M.below hb; clear hb; try clear u
     refine list_val F (F.wants 86 false rfl (by kernel_rfl) rfl true rfl) rfl rfl (.bool false) (ex_bin .eql _ _ _ _ rfl .i64 _ _ (F.e rfl) rfl _ (b_eql (beq_eq_false_iff_ne.2 hN))) ?_; clear F a; intro a F
     refine list_val F (F.wants 86 false rfl (by kernel_rfl) rfl true rfl) rfl rfl (.bool false) (ex_move _ rfl _ (F.e rfl)) ?_; clear F a; intro a F
     refine list_skip F (F.wants 90 false rfl (by kernel_rfl) rfl false rfl) rfl rfl ?_; clear F a; intro a F
     refine list_skip F (F.wants 90 false rfl (by kernel_rfl) rfl false rfl) rfl rfl ?_; clear F a; intro a F
     refine list_skip F (F.wants 90 false rfl (by kernel_rfl) rfl false rfl) rfl rfl ?_; clear F a; intro a F
     refine list_skip F (F.wants 90 false rfl (by kernel_rfl) rfl false rfl) rfl rfl ?_; clear F a; intro a F
     refine list_val F (F.wants 86 false rfl (by kernel_rfl) rfl true rfl) rfl rfl (.bool false) (ex_pick_f _ _ _ rfl (F.e rfl) _ rfl) ?_; clear F a; intro a F
     refine list_val F (wn rfl) rfl rfl (.bool false) (ex_pick_f _ _ _ rfl (F.e rfl) _ (F.e rfl)) ?_; clear F a; intro a F
     refine wpList_nil ?_
     replace F : Fr 139 a [(0, .slice (some ad) ls.length c), (2, .bool false), (3, .int .i64 ((al + s.length + 1 : Nat) : Int)), (4, .int .i64 ((i : Nat) : Int)), (5, .string (ST.str s)), (6, .slice A_37 (((rdR sUrl s (decide (s.length % 4 ≠ 1))).1).length) c_37), (7, .int .i64 ((rdR sUrl s (decide (s.length % 4 ≠ 1))).2)), (8, .slice A_42 (((rdR sPlain (trim2 s) (decide (s.length % 4 = 0))).1).length) c_42), (9, .int .i64 ((rdR sPlain (trim2 s) (decide (s.length % 4 = 0))).2)), (10, .slice A_47 (((b16R s).1).length) c_47), (11, .int .i64 ((b16R s).2)), (12, .int .i64 ((n10R s).1)), (13, .int .i64 ((n10R s).2)), (18, .bool true), (30, .bool false), (96, .bool false)] := F.keep ⟨rfl, rfl, rfl, rfl, rfl, rfl, rfl, rfl, rfl, rfl, rfl, rfl, rfl, rfl, rfl, rfl, trivial⟩
     refine then_n ?_
     refine wp_cond_false (F.e rfl) ?_
     refine wp_skip ?_
     refine only_n ?_
     exact ⟨F.keep ⟨rfl, rfl, rfl, rfl, rfl, rfl, rfl, rfl, rfl, rfl, rfl, rfl, rfl, rfl, rfl, trivial⟩, (by refine M.pick' [] _ ?_ (by decide); exact trivial)⟩
    by_cases hN : (n10R s).2 = 0
    ·
     refine wp_region_lit ?_
     refine list_val F (wn rfl) rfl rfl (.int .i64 ((rdR sUrl s (decide (s.length % 4 ≠ 1))).2)) (ex_move _ rfl _ (F.e rfl)) ?_; clear F a; intro a F
     refine list_do (wn rfl) (fun K hK => ?_)
     refine ow_call rfl rfl F 11 #[.int .i64 ((rdR sUrl s (decide (s.length % 4 ≠ 1))).2)] (ex_call 11 _ _ rfl rfl g4_ent_11 _ (map1 (F.e rfl))) (num_any ((rdR sUrl s (decide (s.length % 4 ≠ 1))).2) _) (fun e u hR => ?_)
     obtain ⟨he, hb⟩ := hR
     refine ⟨.int .i64 ((rdR sUrl s (decide (s.length % 4 ≠ 1))).2), he, ?_⟩; clear he F a; intro a F
     refine hK _ _ ?_
     clear hK K
     replace O_37 := O_37.below hb
     replace O_42 := O_42.below hb
     replace O_47 := O_47.below hb
     replace M := M.below hb; clear hb; try clear v
     refine list_val F (wn rfl) rfl rfl (.bool true) (ex_bin .eql _ _ _ _ rfl .i64 _ _ (F.e rfl) rfl _ (b_eql (by rw [hA]; rfl))) ?_; clear F a; intro a F
     refine list_val F (wn rfl) rfl rfl (.bool true) (ex_move _ rfl _ (F.e rfl)) ?_; clear F a; intro a F
     refine list_val F (F.wants 58 true rfl (by kernel_rfl) rfl true rfl) rfl rfl (.slice A_37 (((rdR sUrl s (decide (s.length % 4 ≠ 1))).1).length) c_37) (ex_move _ rfl _ (F.e rfl)) ?_; clear F a; intro a F
     refine list_do (F.wants 58 true rfl (by kernel_rfl) rfl true rfl) (fun K hK => ?_)
     refine ow_call rfl rfl F 7 #[.slice A_37 (((rdR sUrl s (decide (s.length % 4 ≠ 1))).1).length) c_37] (ex_call 7 _ _ rfl rfl g4_ent_7 _ (map1 (F.e rfl))) (text64_any ((rdR sUrl s (decide (s.length % 4 ≠ 1))).1) _ _ _ O_37.rd.1 O_37.rd.2.2 (by omega)) (fun e v hR => ?_)
     obtain ⟨he, hb⟩ := hR
     refine ⟨.string (ST.str (enc sUrl ((rdR sUrl s (decide (s.length % 4 ≠ 1))).1))), he, ?_⟩; clear he F a; intro a F
     refine hK _ _ ?_
     clear hK K
     replace O_37 := O_37.below hb
     replace O_42 := O_42.below hb
     replace O_47 := O_47.below hb
     replace M := M.below hb; clear hb; try clear u
     refine list_val F (F.wants 58 true rfl (by kernel_rfl) rfl true rfl) rfl rfl (.string (ST.str s)) (ex_move _ rfl _ (F.e rfl)) ?_; clear F a; intro a F
     refine list_val F (F.wants 58 true rfl (by kernel_rfl) rfl true rfl) rfl rfl (.bool false) (ST.ex_neqs _ _ _ _ rfl (enc sUrl ((rdR sUrl s (decide (s.length % 4 ≠ 1))).1)) s (F.e rfl) (F.e rfl) false (by rw [decide_eq_true (rd64_enc hA)]; rfl)) ?_; clear F a; intro a F
     refine list_val F (wn rfl) rfl rfl (.bool false) (ex_pick_t _ _ _ rfl (F.e rfl) _ (F.e rfl)) ?_; clear F a; intro a F
     refine list_val F (wn rfl) rfl rfl (.bool false) (ex_move _ rfl _ (F.e rfl)) ?_; clear F a; intro a F
     refine list_val F (F.wants 64 false rfl (by kernel_rfl) rfl true rfl) rfl rfl (.int .i64 ((rdR sPlain (trim2 s) (decide (s.length % 4 = 0))).2)) (ex_move _ rfl _ (F.e rfl)) ?_; clear F a; intro a F
     refine list_do (F.wants 64 false rfl (by kernel_rfl) rfl true rfl) (fun K hK => ?_)
     refine ow_call rfl rfl F 11 #[.int .i64 ((rdR sPlain (trim2 s) (decide (s.length % 4 = 0))).2)] (ex_call 11 _ _ rfl rfl g4_ent_11 _ (map1 (F.e rfl))) (num_any ((rdR sPlain (trim2 s) (decide (s.length % 4 = 0))).2) _) (fun e u hR => ?_)
     obtain ⟨he, hb⟩ := hR
     refine ⟨.int .i64 ((rdR sPlain (trim2 s) (decide (s.length % 4 = 0))).2), he, ?_⟩; clear he F a; intro a F
     refine hK _ _ ?_
     clear hK K
     replace O_37 := O_37.below hb
     replace O_42 := O_42.below hb
     replace O_47 := O_47.below hb
     replace M := M.below hb; clear hb; try clear v
     refine list_val F (F.wants 64 false rfl (by kernel_rfl) rfl true rfl) rfl rfl (.bool false) (ex_bin .eql _ _ _ _ rfl .i64 _ _ (F.e rfl) rfl _ (b_eql (beq_eq_false_iff_ne.2 hP))) ?_; clear F a; intro a F
     refine list_val F (F.wants 64 false rfl (by kernel_rfl) rfl true rfl) rfl rfl (.bool false) (ex_move _ rfl _ (F.e rfl)) ?_; clear F a; intro a F
     refine list_skip F (F.wants 68 false rfl (by kernel_rfl) rfl false rfl) rfl rfl ?_; clear F a; intro a F
     refine list_skip F (F.wants 68 false rfl (by kernel_rfl) rfl false rfl) rfl rfl ?_; clear F a; intro a F
     refine list_skip F (F.wants 68 false rfl (by kernel_rfl) rfl false rfl) rfl rfl ?_; clear F a; intro a F
     refine list_skip F (F.wants 68 false rfl (by kernel_rfl) rfl false rfl) rfl rfl ?_; clear F a; intro a F
     refine list_val F (F.wants 64 false rfl (by kernel_rfl) rfl true rfl) rfl rfl (.bool false) (ex_pick_f _ _ _ rfl (F.e rfl) _ rfl) ?_; clear F a; intro a F
     refine list_val F (wn rfl) rfl rfl (.bool false) (ex_pick_f _ _ _ rfl (F.e rfl) _ (F.e rfl)) ?_; clear F a; intro a F
     refine list_val F (wn rfl) rfl rfl (.bool false) (ex_move _ rfl _ (F.e rfl)) ?_; clear F a; intro a F
     refine list_val F (F.wants 75 false rfl (by kernel_rfl) rfl true rfl) rfl rfl (.int .i64 ((b16R s).2)) (ex_move _ rfl _ (F.e rfl)) ?_; clear F a; intro a F
     refine list_do (F.wants 75 false rfl (by kernel_rfl) rfl true rfl) (fun K hK => ?_)
     refine ow_call rfl rfl F 11 #[.int .i64 ((b16R s).2)] (ex_call 11 _ _ rfl rfl g4_ent_11 _ (map1 (F.e rfl))) (num_any ((b16R s).2) _) (fun e v hR => ?_)
     obtain ⟨he, hb⟩ := hR
     refine ⟨.int .i64 ((b16R s).2), he, ?_⟩; clear he F a; intro a F
     refine hK _ _ ?_
     clear hK K
     replace O_37 := O_37.below hb
     replace O_42 := O_42.below hb
     replace O_47 := O_47.below hb
     replace M := M.below hb; clear hb; try clear u
     refine list_val F (F.wants 75 false rfl (by kernel_rfl) rfl true rfl) rfl rfl (.bool false) (ex_bin .eql _ _ _ _ rfl .i64 _ _ (F.e rfl) rfl _ (b_eql (beq_eq_false_iff_ne.2 hH))) ?_; clear F a; intro a F
     refine list_val F (F.wants 75 false rfl (by kernel_rfl) rfl true rfl) rfl rfl (.bool false) (ex_move _ rfl _ (F.e rfl)) ?_; clear F a; intro a F
     refine list_skip F (F.wants 79 false rfl (by kernel_rfl) rfl false rfl) rfl rfl ?_; clear F a; intro a F
     refine list_skip F (F.wants 79 false rfl (by kernel_rfl) rfl false rfl) rfl rfl ?_; clear F a; intro a F
     refine list_skip F (F.wants 79 false rfl (by kernel_rfl) rfl false rfl) rfl rfl ?_; clear F a; intro a F
     refine list_skip F (F.wants 79 false rfl (by kernel_rfl) rfl false rfl) rfl rfl ?_; clear F a; intro a F
     refine list_val F (F.wants 75 false rfl (by kernel_rfl) rfl true rfl) rfl rfl (.bool false) (ex_pick_f _ _ _ rfl (F.e rfl) _ rfl) ?_; clear F a; intro a F
     refine list_val F (wn rfl) rfl rfl (.bool false) (ex_pick_f _ _ _ rfl (F.e rfl) _ (F.e rfl)) ?_; clear F a; intro a F
     refine list_val F (wn rfl) rfl rfl (.bool false) (ex_move _ rfl _ (F.e rfl)) ?_; clear F a; intro a F
     refine list_val F (F.wants 86 false rfl (by kernel_rfl) rfl true rfl) rfl rfl (.int .i64 ((n10R s).2)) (ex_move _ rfl _ (F.e rfl)) ?_; clear F a; intro a F
     refine list_do (F.wants 86 false rfl (by kernel_rfl) rfl true rfl) (fun K hK => ?_)
     refine ow_call rfl rfl F 11 #[.int .i64 ((n10R s).2)] (ex_call 11 _ _ rfl rfl g4_ent_11 _ (map1 (F.e rfl))) (num_any ((n10R s).2) _) (fun e u hR => ?_)
     obtain ⟨he, hb⟩ := hR
     refine ⟨.int .i64 ((n10R s).2), he, ?_⟩; clear he F a; intro a F
     refine hK _ _ ?_
     clear hK K
     replace O_37 := O_37.below hb
     replace O_42 := O_42.below hb
     replace O_47 := O_47.below hb
     replace M := M.below hb; clear hb; try clear v
     refine list_val F (F.wants 86 false rfl (by kernel_rfl) rfl true rfl) rfl rfl (.bool true) (ex_bin .eql _ _ _ _ rfl .i64 _ _ (F.e rfl) rfl _ (b_eql (by rw [hN]; rfl))) ?_; clear F a; intro a F
     refine list_val F (F.wants 86 false rfl (by kernel_rfl) rfl true rfl) rfl rfl (.bool true) (ex_move _ rfl _ (F.e rfl)) ?_; clear F a; intro a F
     refine list_val F (F.wants 90 true rfl (by kernel_rfl) rfl true rfl) rfl rfl (.int .i64 ((n10R s).1)) (ex_move _ rfl _ (F.e rfl)) ?_; clear F a; intro a F
     refine list_do (F.wants 90 true rfl (by kernel_rfl) rfl true rfl) (fun K hK => ?_)
     refine ow_call rfl rfl F 18 #[.int .i64 ((n10R s).1)] (ex_call 18 _ _ rfl rfl g4_ent_18 _ (map1 (F.e rfl))) (text10_any (n10R s).1 hbd.1 hbd.2 _ (hE.below M.bel)) (fun e v hR => ?_)
     obtain ⟨he, hb⟩ := hR
     refine ⟨.string (ST.str (Lib.itoa (n10R s).1)), he, ?_⟩; clear he F a; intro a F
     refine hK _ _ ?_
     clear hK K
     replace O_37 := O_37.below hb
     replace O_42 := O_42.below hb
     replace O_47 := O_47.below hb
     replace M := M.below hb; clear hb; try clear u
     refine list_val F (F.wants 90 true rfl (by kernel_rfl) rfl true rfl) rfl rfl (.string (ST.str s)) (ex_move _ rfl _ (F.e rfl)) ?_; clear F a; intro a F
     refine list_val F (F.wants 90 true rfl (by kernel_rfl) rfl true rfl) rfl rfl (.bool false) (ST.ex_neqs _ _ _ _ rfl (Lib.itoa (n10R s).1) s (F.e rfl) (F.e rfl) false (by rw [decide_eq_true (n10_enc hN)]; rfl)) ?_; clear F a; intro a F
     refine list_val F (F.wants 86 false rfl (by kernel_rfl) rfl true rfl) rfl rfl (.bool false) (ex_pick_t _ _ _ rfl (F.e rfl) _ (F.e rfl)) ?_; clear F a; intro a F
     refine list_val F (wn rfl) rfl rfl (.bool false) (ex_pick_f _ _ _ rfl (F.e rfl) _ (F.e rfl)) ?_; clear F a; intro a F
     refine wpList_nil ?_
     replace F : Fr 139 a [(0, .slice (some ad) ls.length c), (2, .bool false), (3, .int .i64 ((al + s.length + 1 : Nat) : Int)), (4, .int .i64 ((i : Nat) : Int)), (5, .string (ST.str s)), (6, .slice A_37 (((rdR sUrl s (decide (s.length % 4 ≠ 1))).1).length) c_37), (7, .int .i64 ((rdR sUrl s (decide (s.length % 4 ≠ 1))).2)), (8, .slice A_42 (((rdR sPlain (trim2 s) (decide (s.length % 4 = 0))).1).length) c_42), (9, .int .i64 ((rdR sPlain (trim2 s) (decide (s.length % 4 = 0))).2)), (10, .slice A_47 (((b16R s).1).length) c_47), (11, .int .i64 ((b16R s).2)), (12, .int .i64 ((n10R s).1)), (13, .int .i64 ((n10R s).2)), (18, .bool true), (30, .bool false), (96, .bool false)] := F.keep ⟨rfl, rfl, rfl, rfl, rfl, rfl, rfl, rfl, rfl, rfl, rfl, rfl, rfl, rfl, rfl, rfl, trivial⟩
     refine then_n ?_
     refine wp_cond_false (F.e rfl) ?_
     refine wp_skip ?_
     refine only_n ?_
     exact ⟨F.keep ⟨rfl, rfl, rfl, rfl, rfl, rfl, rfl, rfl, rfl, rfl, rfl, rfl, rfl, rfl, rfl, trivial⟩, (by refine M.pick' [] _ ?_ (by decide); exact trivial)⟩
    refine wp_region_lit ?_
    refine list_val F (wn rfl) rfl rfl (.int .i64 ((rdR sUrl s (decide (s.length % 4 ≠ 1))).2)) (ex_move _ rfl _ (F.e rfl)) ?_; clear F a; intro a F
    refine list_do (wn rfl) (fun K hK => ?_)
    refine ow_call rfl rfl F 11 #[.int .i64 ((rdR sUrl s (decide (s.length % 4 ≠ 1))).2)] (ex_call 11 _ _ rfl rfl g4_ent_11 _ (map1 (F.e rfl))) (num_any ((rdR sUrl s (decide (s.length % 4 ≠ 1))).2) _) (fun e u hR => ?_)
    obtain ⟨he, hb⟩ := hR
    refine ⟨.int .i64 ((rdR sUrl s (decide (s.length % 4 ≠ 1))).2), he, ?_⟩; clear he F a; intro a F
    refine hK _ _ ?_
    clear hK K
    replace O_37 := O_37.below hb
    replace O_42 := O_42.below hb
    replace O_47 := O_47.below hb
    replace M := M.below hb; clear hb; try clear v
    refine list_val F (wn rfl) rfl rfl (.bool true) (ex_bin .eql _ _ _ _ rfl .i64 _ _ (F.e rfl) rfl _ (b_eql (by rw [hA]; rfl))) ?_; clear F a; intro a F
    refine list_val F (wn rfl) rfl rfl (.bool true) (ex_move _ rfl _ (F.e rfl)) ?_; clear F a; intro a F
    refine list_val F (F.wants 58 true rfl (by kernel_rfl) rfl true rfl) rfl rfl (.slice A_37 (((rdR sUrl s (decide (s.length % 4 ≠ 1))).1).length) c_37) (ex_move _ rfl _ (F.e rfl)) ?_; clear F a; intro a F
    refine list_do (F.wants 58 true rfl (by kernel_rfl) rfl true rfl) (fun K hK => ?_)
    refine ow_call rfl rfl F 7 #[.slice A_37 (((rdR sUrl s (decide (s.length % 4 ≠ 1))).1).length) c_37] (ex_call 7 _ _ rfl rfl g4_ent_7 _ (map1 (F.e rfl))) (text64_any ((rdR sUrl s (decide (s.length % 4 ≠ 1))).1) _ _ _ O_37.rd.1 O_37.rd.2.2 (by omega)) (fun e v hR => ?_)
    obtain ⟨he, hb⟩ := hR
    refine ⟨.string (ST.str (enc sUrl ((rdR sUrl s (decide (s.length % 4 ≠ 1))).1))), he, ?_⟩; clear he F a; intro a F
    refine hK _ _ ?_
    clear hK K
    replace O_37 := O_37.below hb
    replace O_42 := O_42.below hb
    replace O_47 := O_47.below hb
    replace M := M.below hb; clear hb; try clear u
    refine list_val F (F.wants 58 true rfl (by kernel_rfl) rfl true rfl) rfl rfl (.string (ST.str s)) (ex_move _ rfl _ (F.e rfl)) ?_; clear F a; intro a F
    refine list_val F (F.wants 58 true rfl (by kernel_rfl) rfl true rfl) rfl rfl (.bool false) (ST.ex_neqs _ _ _ _ rfl (enc sUrl ((rdR sUrl s (decide (s.length % 4 ≠ 1))).1)) s (F.e rfl) (F.e rfl) false (by rw [decide_eq_true (rd64_enc hA)]; rfl)) ?_; clear F a; intro a F
    refine list_val F (wn rfl) rfl rfl (.bool false) (ex_pick_t _ _ _ rfl (F.e rfl) _ (F.e rfl)) ?_; clear F a; intro a F
    refine list_val F (wn rfl) rfl rfl (.bool false) (ex_move _ rfl _ (F.e rfl)) ?_; clear F a; intro a F
    refine list_val F (F.wants 64 false rfl (by kernel_rfl) rfl true rfl) rfl rfl (.int .i64 ((rdR sPlain (trim2 s) (decide (s.length % 4 = 0))).2)) (ex_move _ rfl _ (F.e rfl)) ?_; clear F a; intro a F
    refine list_do (F.wants 64 false rfl (by kernel_rfl) rfl true rfl) (fun K hK => ?_)
    refine ow_call rfl rfl F 11 #[.int .i64 ((rdR sPlain (trim2 s) (decide (s.length % 4 = 0))).2)] (ex_call 11 _ _ rfl rfl g4_ent_11 _ (map1 (F.e rfl))) (num_any ((rdR sPlain (trim2 s) (decide (s.length % 4 = 0))).2) _) (fun e u hR => ?_)
    obtain ⟨he, hb⟩ := hR
    refine ⟨.int .i64 ((rdR sPlain (trim2 s) (decide (s.length % 4 = 0))).2), he, ?_⟩; clear he F a; intro a F
    refine hK _ _ ?_
    clear hK K
    replace O_37 := O_37.below hb
    replace O_42 := O_42.below hb
    replace O_47 := O_47.below hb
    replace M := M.below hb; clear hb; try clear v
    refine list_val F (F.wants 64 false rfl (by kernel_rfl) rfl true rfl) rfl rfl (.bool false) (ex_bin .eql _ _ _ _ rfl .i64 _ _ (F.e rfl) rfl _ (b_eql (beq_eq_false_iff_ne.2 hP))) ?_; clear F a; intro a F
    refine list_val F (F.wants 64 false rfl (by kernel_rfl) rfl true rfl) rfl rfl (.bool false) (ex_move _ rfl _ (F.e rfl)) ?_; clear F a; intro a F
    refine list_skip F (F.wants 68 false rfl (by kernel_rfl) rfl false rfl) rfl rfl ?_; clear F a; intro a F
    refine list_skip F (F.wants 68 false rfl (by kernel_rfl) rfl false rfl) rfl rfl ?_; clear F a; intro a F
    refine list_skip F (F.wants 68 false rfl (by kernel_rfl) rfl false rfl) rfl rfl ?_; clear F a; intro a F
    refine list_skip F (F.wants 68 false rfl (by kernel_rfl) rfl false rfl) rfl rfl ?_; clear F a; intro a F
    refine list_val F (F.wants 64 false rfl (by kernel_rfl) rfl true rfl) rfl rfl (.bool false) (ex_pick_f _ _ _ rfl (F.e rfl) _ rfl) ?_; clear F a; intro a F
    refine list_val F (wn rfl) rfl rfl (.bool false) (ex_pick_f _ _ _ rfl (F.e rfl) _ (F.e rfl)) ?_; clear F a; intro a F
    refine list_val F (wn rfl) rfl rfl (.bool false) (ex_move _ rfl _ (F.e rfl)) ?_; clear F a; intro a F
    refine list_val F (F.wants 75 false rfl (by kernel_rfl) rfl true rfl) rfl rfl (.int .i64 ((b16R s).2)) (ex_move _ rfl _ (F.e rfl)) ?_; clear F a; intro a F
    refine list_do (F.wants 75 false rfl (by kernel_rfl) rfl true rfl) (fun K hK => ?_)
    refine ow_call rfl rfl F 11 #[.int .i64 ((b16R s).2)] (ex_call 11 _ _ rfl rfl g4_ent_11 _ (map1 (F.e rfl))) (num_any ((b16R s).2) _) (fun e v hR => ?_)
    obtain ⟨he, hb⟩ := hR
    refine ⟨.int .i64 ((b16R s).2), he, ?_⟩; clear he F a; intro a F
    refine hK _ _ ?_
    clear hK K
    replace O_37 := O_37.below hb
    replace O_42 := O_42.below hb
    replace O_47 := O_47.below hb
    replace M := M.below hb; clear hb; try clear u
    refine list_val F (F.wants 75 false rfl (by kernel_rfl) rfl true rfl) rfl rfl (.bool false) (ex_bin .eql _ _ _ _ rfl .i64 _ _ (F.e rfl) rfl _ (b_eql (beq_eq_false_iff_ne.2 hH))) ?_; clear F a; intro a F
    refine list_val F (F.wants 75 false rfl (by kernel_rfl) rfl true rfl) rfl rfl (.bool false) (ex_move _ rfl _ (F.e rfl)) ?_; clear F a; intro a F
    refine list_skip F (F.wants 79 false rfl (by kernel_rfl) rfl false rfl) rfl rfl ?_; clear F a; intro a F
    refine list_skip F (F.wants 79 false rfl (by kernel_rfl) rfl false rfl) rfl rfl ?_; clear F a; intro a F
    refine list_skip F (F.wants 79 false rfl (by kernel_rfl) rfl false rfl) rfl rfl ?_; clear F a; intro a F
    refine list_skip F (F.wants 79 false rfl (by kernel_rfl) rfl false rfl) rfl rfl ?_; clear F a; intro a F
    refine list_val F (F.wants 75 false rfl (by kernel_rfl) rfl true rfl) rfl rfl (.bool false) (ex_pick_f _ _ _ rfl (F.e rfl) _ rfl) ?_; clear F a; intro a F
    refine list_val F (wn rfl) rfl rfl (.bool false) (ex_pick_f _ _ _ rfl (F.e rfl) _ (F.e rfl)) ?_; clear F a; intro a F
    refine list_val F (wn rfl) rfl rfl (.bool false) (ex_move _ rfl _ (F.e rfl)) ?_; clear F a; intro a F
    refine list_val F (F.wants 86 false rfl (by kernel_rfl) rfl true rfl) rfl rfl (.int .i64 ((n10R s).2)) (ex_move _ rfl _ (F.e rfl)) ?_; clear F a; intro a F
    refine list_do (F.wants 86 false rfl (by kernel_rfl) rfl true rfl) (fun K hK => ?_)
    refine ow_call rfl rfl F 11 #[.int .i64 ((n10R s).2)] (ex_call 11 _ _ rfl rfl g4_ent_11 _ (map1 (F.e rfl))) (num_any ((n10R s).2) _) (fun e u hR => ?_)
    obtain ⟨he, hb⟩ := hR
    refine ⟨.int .i64 ((n10R s).2), he, ?_⟩; clear he F a; intro a F
    refine hK _ _ ?_
    clear hK K
    replace O_37 := O_37.below hb
    replace O_42 := O_42.below hb
    replace O_47 := O_47.below hb
    replace M := M.below hb; clear hb; try clear v
    refine list_val F (F.wants 86 false rfl (by kernel_rfl) rfl true rfl) rfl rfl (.bool false) (ex_bin .eql _ _ _ _ rfl .i64 _ _ (F.e rfl) rfl _ (b_eql (beq_eq_false_iff_ne.2 hN))) ?_; clear F a; intro a F
    refine list_val F (F.wants 86 false rfl (by kernel_rfl) rfl true rfl) rfl rfl (.bool false) (ex_move _ rfl _ (F.e rfl)) ?_; clear F a; intro a F
    refine list_skip F (F.wants 90 false rfl (by kernel_rfl) rfl false rfl) rfl rfl ?_; clear F a; intro a F
    refine list_skip F (F.wants 90 false rfl (by kernel_rfl) rfl false rfl) rfl rfl ?_; clear F a; intro a F
    refine list_skip F (F.wants 90 false rfl (by kernel_rfl) rfl false rfl) rfl rfl ?_; clear F a; intro a F
    refine list_skip F (F.wants 90 false rfl (by kernel_rfl) rfl false rfl) rfl rfl ?_; clear F a; intro a F
    refine list_val F (F.wants 86 false rfl (by kernel_rfl) rfl true rfl) rfl rfl (.bool false) (ex_pick_f _ _ _ rfl (F.e rfl) _ rfl) ?_; clear F a; intro a F
    refine list_val F (wn rfl) rfl rfl (.bool false) (ex_pick_f _ _ _ rfl (F.e rfl) _ (F.e rfl)) ?_; clear F a; intro a F
    refine wpList_nil ?_
    replace F : Fr 139 a [(0, .slice (some ad) ls.length c), (2, .bool false), (3, .int .i64 ((al + s.length + 1 : Nat) : Int)), (4, .int .i64 ((i : Nat) : Int)), (5, .string (ST.str s)), (6, .slice A_37 (((rdR sUrl s (decide (s.length % 4 ≠ 1))).1).length) c_37), (7, .int .i64 ((rdR sUrl s (decide (s.length % 4 ≠ 1))).2)), (8, .slice A_42 (((rdR sPlain (trim2 s) (decide (s.length % 4 = 0))).1).length) c_42), (9, .int .i64 ((rdR sPlain (trim2 s) (decide (s.length % 4 = 0))).2)), (10, .slice A_47 (((b16R s).1).length) c_47), (11, .int .i64 ((b16R s).2)), (12, .int .i64 ((n10R s).1)), (13, .int .i64 ((n10R s).2)), (18, .bool true), (30, .bool false), (96, .bool false)] := F.keep ⟨rfl, rfl, rfl, rfl, rfl, rfl, rfl, rfl, rfl, rfl, rfl, rfl, rfl, rfl, rfl, rfl, trivial⟩
    refine then_n ?_
    refine wp_cond_false (F.e rfl) ?_
    refine wp_skip ?_
    refine only_n ?_
    exact ⟨F.keep ⟨rfl, rfl, rfl, rfl, rfl, rfl, rfl, rfl, rfl, rfl, rfl, rfl, rfl, rfl, rfl, trivial⟩, (by refine M.pick' [] _ ?_ (by decide); exact trivial)⟩
   by_cases hP : (rdR sPlain (trim2 s) (decide (s.length % 4 = 0))).2 = 0
   ·
    by_cases hH : (b16R s).2 = 0
    ·
     by_cases hN : (n10R s).2 = 0
     ·
      refine wp_region_lit ?_
      refine list_val F (wn rfl) rfl rfl (.int .i64 ((rdR sUrl s (decide (s.length % 4 ≠ 1))).2)) (ex_move _ rfl _ (F.e rfl)) ?_; clear F a; intro a F
      refine list_do (wn rfl) (fun K hK => ?_)
      refine ow_call rfl rfl F 11 #[.int .i64 ((rdR sUrl s (decide (s.length % 4 ≠ 1))).2)] (ex_call 11 _ _ rfl rfl g4_ent_11 _ (map1 (F.e rfl))) (num_any ((rdR sUrl s (decide (s.length % 4 ≠ 1))).2) _) (fun e u hR => ?_)
      obtain ⟨he, hb⟩ := hR
      refine ⟨.int .i64 ((rdR sUrl s (decide (s.length % 4 ≠ 1))).2), he, ?_⟩; clear he F a; intro a F
      refine hK _ _ ?_
      clear hK K
      replace O_37 := O_37.below hb
      replace O_42 := O_42.below hb
      replace O_47 := O_47.below hb
      replace M := M.below hb; clear hb; try clear v
      refine list_val F (wn rfl) rfl rfl (.bool false) (ex_bin .eql _ _ _ _ rfl .i64 _ _ (F.e rfl) rfl _ (b_eql (beq_eq_false_iff_ne.2 hA))) ?_; clear F a; intro a F
      refine list_val F (wn rfl) rfl rfl (.bool false) (ex_move _ rfl _ (F.e rfl)) ?_; clear F a; intro a F
      refine list_skip F (F.wants 58 false rfl (by kernel_rfl) rfl false rfl) rfl rfl ?_; clear F a; intro a F
      refine list_skip F (F.wants 58 false rfl (by kernel_rfl) rfl false rfl) rfl rfl ?_; clear F a; intro a F
      refine list_skip F (F.wants 58 false rfl (by kernel_rfl) rfl false rfl) rfl rfl ?_; clear F a; intro a F
      refine list_skip F (F.wants 58 false rfl (by kernel_rfl) rfl false rfl) rfl rfl ?_; clear F a; intro a F
      refine list_val F (wn rfl) rfl rfl (.bool false) (ex_pick_f _ _ _ rfl (F.e rfl) _ rfl) ?_; clear F a; intro a F
      refine list_val F (wn rfl) rfl rfl (.bool false) (ex_move _ rfl _ (F.e rfl)) ?_; clear F a; intro a F
      refine list_val F (F.wants 64 false rfl (by kernel_rfl) rfl true rfl) rfl rfl (.int .i64 ((rdR sPlain (trim2 s) (decide (s.length % 4 = 0))).2)) (ex_move _ rfl _ (F.e rfl)) ?_; clear F a; intro a F
      refine list_do (F.wants 64 false rfl (by kernel_rfl) rfl true rfl) (fun K hK => ?_)
      refine ow_call rfl rfl F 11 #[.int .i64 ((rdR sPlain (trim2 s) (decide (s.length % 4 = 0))).2)] (ex_call 11 _ _ rfl rfl g4_ent_11 _ (map1 (F.e rfl))) (num_any ((rdR sPlain (trim2 s) (decide (s.length % 4 = 0))).2) _) (fun e v hR => ?_)
      obtain ⟨he, hb⟩ := hR
      refine ⟨.int .i64 ((rdR sPlain (trim2 s) (decide (s.length % 4 = 0))).2), he, ?_⟩; clear he F a; intro a F
      refine hK _ _ ?_
      clear hK K
      replace O_37 := O_37.below hb
      replace O_42 := O_42.below hb
      replace O_47 := O_47.below hb
      replace M := M.below hb; clear hb; try clear u
      refine list_val F (F.wants 64 false rfl (by kernel_rfl) rfl true rfl) rfl rfl (.bool true) (ex_bin .eql _ _ _ _ rfl .i64 _ _ (F.e rfl) rfl _ (b_eql (by rw [hP]; rfl))) ?_; clear F a; intro a F
      refine list_val F (F.wants 64 false rfl (by kernel_rfl) rfl true rfl) rfl rfl (.bool true) (ex_move _ rfl _ (F.e rfl)) ?_; clear F a; intro a F
      refine list_val F (F.wants 68 true rfl (by kernel_rfl) rfl true rfl) rfl rfl (.slice A_42 (((rdR sPlain (trim2 s) (decide (s.length % 4 = 0))).1).length) c_42) (ex_move _ rfl _ (F.e rfl)) ?_; clear F a; intro a F
      refine list_do (F.wants 68 true rfl (by kernel_rfl) rfl true rfl) (fun K hK => ?_)
      refine ow_call rfl rfl F 8 #[.slice A_42 (((rdR sPlain (trim2 s) (decide (s.length % 4 = 0))).1).length) c_42] (ex_call 8 _ _ rfl rfl g4_ent_8 _ (map1 (F.e rfl))) (textPad_any ((rdR sPlain (trim2 s) (decide (s.length % 4 = 0))).1) _ _ _ O_42.rd.1 O_42.rd.2.2 (by omega)) (fun e u hR => ?_)
      obtain ⟨he, hb⟩ := hR
      refine ⟨.string (ST.str (encPad ((rdR sPlain (trim2 s) (decide (s.length % 4 = 0))).1))), he, ?_⟩; clear he F a; intro a F
      refine hK _ _ ?_
      clear hK K
      replace O_37 := O_37.below hb
      replace O_42 := O_42.below hb
      replace O_47 := O_47.below hb
      replace M := M.below hb; clear hb; try clear v
      refine list_val F (F.wants 68 true rfl (by kernel_rfl) rfl true rfl) rfl rfl (.string (ST.str s)) (ex_move _ rfl _ (F.e rfl)) ?_; clear F a; intro a F
      refine list_val F (F.wants 68 true rfl (by kernel_rfl) rfl true rfl) rfl rfl (.bool false) (ST.ex_neqs _ _ _ _ rfl (encPad ((rdR sPlain (trim2 s) (decide (s.length % 4 = 0))).1)) s (F.e rfl) (F.e rfl) false (by rw [decide_eq_true (rdPad_enc hP)]; rfl)) ?_; clear F a; intro a F
      refine list_val F (F.wants 64 false rfl (by kernel_rfl) rfl true rfl) rfl rfl (.bool false) (ex_pick_t _ _ _ rfl (F.e rfl) _ (F.e rfl)) ?_; clear F a; intro a F
      refine list_val F (wn rfl) rfl rfl (.bool false) (ex_pick_f _ _ _ rfl (F.e rfl) _ (F.e rfl)) ?_; clear F a; intro a F
      refine list_val F (wn rfl) rfl rfl (.bool false) (ex_move _ rfl _ (F.e rfl)) ?_; clear F a; intro a F
      refine list_val F (F.wants 75 false rfl (by kernel_rfl) rfl true rfl) rfl rfl (.int .i64 ((b16R s).2)) (ex_move _ rfl _ (F.e rfl)) ?_; clear F a; intro a F
      refine list_do (F.wants 75 false rfl (by kernel_rfl) rfl true rfl) (fun K hK => ?_)
      refine ow_call rfl rfl F 11 #[.int .i64 ((b16R s).2)] (ex_call 11 _ _ rfl rfl g4_ent_11 _ (map1 (F.e rfl))) (num_any ((b16R s).2) _) (fun e v hR => ?_)
      obtain ⟨he, hb⟩ := hR
      refine ⟨.int .i64 ((b16R s).2), he, ?_⟩; clear he F a; intro a F
      refine hK _ _ ?_
      clear hK K
      replace O_37 := O_37.below hb
      replace O_42 := O_42.below hb
      replace O_47 := O_47.below hb
      replace M := M.below hb; clear hb; try clear u
      refine list_val F (F.wants 75 false rfl (by kernel_rfl) rfl true rfl) rfl rfl (.bool true) (ex_bin .eql _ _ _ _ rfl .i64 _ _ (F.e rfl) rfl _ (b_eql (by rw [hH]; rfl))) ?_; clear F a; intro a F
      refine list_val F (F.wants 75 false rfl (by kernel_rfl) rfl true rfl) rfl rfl (.bool true) (ex_move _ rfl _ (F.e rfl)) ?_; clear F a; intro a F
      refine list_val F (F.wants 79 true rfl (by kernel_rfl) rfl true rfl) rfl rfl (.slice A_47 (((b16R s).1).length) c_47) (ex_move _ rfl _ (F.e rfl)) ?_; clear F a; intro a F
      refine list_do (F.wants 79 true rfl (by kernel_rfl) rfl true rfl) (fun K hK => ?_)
      refine ow_call rfl rfl F 6 #[.slice A_47 (((b16R s).1).length) c_47] (ex_call 6 _ _ rfl rfl g4_ent_6 _ (map1 (F.e rfl))) (text16_any ((b16R s).1) _ _ _ O_47.rd.1 O_47.rd.2.2 (by omega)) (fun e u hR => ?_)
      obtain ⟨he, hb⟩ := hR
      refine ⟨.string (ST.str (hex16 ((b16R s).1))), he, ?_⟩; clear he F a; intro a F
      refine hK _ _ ?_
      clear hK K
      replace O_37 := O_37.below hb
      replace O_42 := O_42.below hb
      replace O_47 := O_47.below hb
      replace M := M.below hb; clear hb; try clear v
      refine list_val F (F.wants 79 true rfl (by kernel_rfl) rfl true rfl) rfl rfl (.string (ST.str s)) (ex_move _ rfl _ (F.e rfl)) ?_; clear F a; intro a F
      refine list_val F (F.wants 79 true rfl (by kernel_rfl) rfl true rfl) rfl rfl (.bool false) (ST.ex_neqs _ _ _ _ rfl (hex16 ((b16R s).1)) s (F.e rfl) (F.e rfl) false (by rw [decide_eq_true (b16_enc hH)]; rfl)) ?_; clear F a; intro a F
      refine list_val F (F.wants 75 false rfl (by kernel_rfl) rfl true rfl) rfl rfl (.bool false) (ex_pick_t _ _ _ rfl (F.e rfl) _ (F.e rfl)) ?_; clear F a; intro a F
      refine list_val F (wn rfl) rfl rfl (.bool false) (ex_pick_f _ _ _ rfl (F.e rfl) _ (F.e rfl)) ?_; clear F a; intro a F
      refine list_val F (wn rfl) rfl rfl (.bool false) (ex_move _ rfl _ (F.e rfl)) ?_; clear F a; intro a F
      refine list_val F (F.wants 86 false rfl (by kernel_rfl) rfl true rfl) rfl rfl (.int .i64 ((n10R s).2)) (ex_move _ rfl _ (F.e rfl)) ?_; clear F a; intro a F
      refine list_do (F.wants 86 false rfl (by kernel_rfl) rfl true rfl) (fun K hK => ?_)
      refine ow_call rfl rfl F 11 #[.int .i64 ((n10R s).2)] (ex_call 11 _ _ rfl rfl g4_ent_11 _ (map1 (F.e rfl))) (num_any ((n10R s).2) _) (fun e v hR => ?_)
      obtain ⟨he, hb⟩ := hR
      refine ⟨.int .i64 ((n10R s).2), he, ?_⟩; clear he F a; intro a F
      refine hK _ _ ?_
      clear hK K
      replace O_37 := O_37.below hb
      replace O_42 := O_42.below hb
      replace O_47 := O_47.below hb
      replace M := M.below hb; clear hb; try clear u
      refine list_val F (F.wants 86 false rfl (by kernel_rfl) rfl true rfl) rfl rfl (.bool true) (ex_bin .eql _ _ _ _ rfl .i64 _ _ (F.e rfl) rfl _ (b_eql (by rw [hN]; rfl))) ?_; clear F a; intro a F
      refine list_val F (F.wants 86 false rfl (by kernel_rfl) rfl true rfl) rfl rfl (.bool true) (ex_move _ rfl _ (F.e rfl)) ?_; clear F a; intro a F
      refine list_val F (F.wants 90 true rfl (by kernel_rfl) rfl true rfl) rfl rfl (.int .i64 ((n10R s).1)) (ex_move _ rfl _ (F.e rfl)) ?_; clear F a; intro a F
      refine list_do (F.wants 90 true rfl (by kernel_rfl) rfl true rfl) (fun K hK => ?_)
      refine ow_call rfl rfl F 18 #[.int .i64 ((n10R s).1)] (ex_call 18 _ _ rfl rfl g4_ent_18 _ (map1 (F.e rfl))) (text10_any (n10R s).1 hbd.1 hbd.2 _ (hE.below M.bel)) (fun e u hR => ?_)
      obtain ⟨he, hb⟩ := hR
      refine ⟨.string (ST.str (Lib.itoa (n10R s).1)), he, ?_⟩; clear he F a; intro a F
      refine hK _ _ ?_
      clear hK K
      replace O_37 := O_37.below hb
      replace O_42 := O_42.below hb
      replace O_47 := O_47.below hb
      replace M := M.below hb; clear hb; try clear v
      refine list_val F (F.wants 90 true rfl (by kernel_rfl) rfl true rfl) rfl rfl (.string (ST.str s)) (ex_move _ rfl _ (F.e rfl)) ?_; clear F a; intro a F
      refine list_val F (F.wants 90 true rfl (by kernel_rfl) rfl true rfl) rfl rfl (.bool false) (ST.ex_neqs _ _ _ _ rfl (Lib.itoa (n10R s).1) s (F.e rfl) (F.e rfl) false (by rw [decide_eq_true (n10_enc hN)]; rfl)) ?_; clear F a; intro a F
      refine list_val F (F.wants 86 false rfl (by kernel_rfl) rfl true rfl) rfl rfl (.bool false) (ex_pick_t _ _ _ rfl (F.e rfl) _ (F.e rfl)) ?_; clear F a; intro a F
      refine list_val F (wn rfl) rfl rfl (.bool false) (ex_pick_f _ _ _ rfl (F.e rfl) _ (F.e rfl)) ?_; clear F a; intro a F
      refine wpList_nil ?_
      replace F : Fr 139 a [(0, .slice (some ad) ls.length c), (2, .bool false), (3, .int .i64 ((al + s.length + 1 : Nat) : Int)), (4, .int .i64 ((i : Nat) : Int)), (5, .string (ST.str s)), (6, .slice A_37 (((rdR sUrl s (decide (s.length % 4 ≠ 1))).1).length) c_37), (7, .int .i64 ((rdR sUrl s (decide (s.length % 4 ≠ 1))).2)), (8, .slice A_42 (((rdR sPlain (trim2 s) (decide (s.length % 4 = 0))).1).length) c_42), (9, .int .i64 ((rdR sPlain (trim2 s) (decide (s.length % 4 = 0))).2)), (10, .slice A_47 (((b16R s).1).length) c_47), (11, .int .i64 ((b16R s).2)), (12, .int .i64 ((n10R s).1)), (13, .int .i64 ((n10R s).2)), (18, .bool true), (30, .bool false), (96, .bool false)] := F.keep ⟨rfl, rfl, rfl, rfl, rfl, rfl, rfl, rfl, rfl, rfl, rfl, rfl, rfl, rfl, rfl, rfl, trivial⟩
      refine then_n ?_
      refine wp_cond_false (F.e rfl) ?_
      refine wp_skip ?_
      refine only_n ?_
      exact ⟨F.keep ⟨rfl, rfl, rfl, rfl, rfl, rfl, rfl, rfl, rfl, rfl, rfl, rfl, rfl, rfl, rfl, trivial⟩, (by refine M.pick' [] _ ?_ (by decide); exact trivial)⟩
     refine wp_region_lit ?_
     refine list_val F (wn rfl) rfl rfl (.int .i64 ((rdR sUrl s (decide (s.length % 4 ≠ 1))).2)) (ex_move _ rfl _ (F.e rfl)) ?_; clear F a; intro a F
     refine list_do (wn rfl) (fun K hK => ?_)
     refine ow_call rfl rfl F 11 #[.int .i64 ((rdR sUrl s (decide (s.length % 4 ≠ 1))).2)] (ex_call 11 _ _ rfl rfl g4_ent_11 _ (map1 (F.e rfl))) (num_any ((rdR sUrl s (decide (s.length % 4 ≠ 1))).2) _) (fun e u hR => ?_)
     obtain ⟨he, hb⟩ := hR
     refine ⟨.int .i64 ((rdR sUrl s (decide (s.length % 4 ≠ 1))).2), he, ?_⟩; clear he F a; intro a F
     refine hK _ _ ?_
     clear hK K
     replace O_37 := O_37.below hb
     replace O_42 := O_42.below hb
     replace O_47 := O_47.below hb
     replace M := M.below hb; clear hb; try clear v
     refine list_val F (wn rfl) rfl rfl (.bool false) (ex_bin .eql _ _ _ _ rfl .i64 _ _ (F.e rfl) rfl _ (b_eql (beq_eq_false_iff_ne.2 hA))) ?_; clear F a; intro a F
     refine list_val F (wn rfl) rfl rfl (.bool false) (ex_move _ rfl _ (F.e rfl)) ?_; clear F a; intro a F
     refine list_skip F (F.wants 58 false rfl (by kernel_rfl) rfl false rfl) rfl rfl ?_; clear F a; intro a F
     refine list_skip F (F.wants 58 false rfl (by kernel_rfl) rfl false rfl) rfl rfl ?_; clear F a; intro a F
     refine list_skip F (F.wants 58 false rfl (by kernel_rfl) rfl false rfl) rfl rfl ?_; clear F a; intro a F
     refine list_skip F (F.wants 58 false rfl (by kernel_rfl) rfl false rfl) rfl rfl ?_; clear F a; intro a F
     refine list_val F (wn rfl) rfl rfl (.bool false) (ex_pick_f _ _ _ rfl (F.e rfl) _ rfl) ?_; clear F a; intro a F
     refine list_val F (wn rfl) rfl rfl (.bool false) (ex_move _ rfl _ (F.e rfl)) ?_; clear F a; intro a F
     refine list_val F (F.wants 64 false rfl (by kernel_rfl) rfl true rfl) rfl rfl (.int .i64 ((rdR sPlain (trim2 s) (decide (s.length % 4 = 0))).2)) (ex_move _ rfl _ (F.e rfl)) ?_; clear F a; intro a F
     refine list_do (F.wants 64 false rfl (by kernel_rfl) rfl true rfl) (fun K hK => ?_)
     refine ow_call rfl rfl F 11 #[.int .i64 ((rdR sPlain (trim2 s) (decide (s.length % 4 = 0))).2)] (ex_call 11 _ _ rfl rfl g4_ent_11 _ (map1 (F.e rfl))) (num_any ((rdR sPlain (trim2 s) (decide (s.length % 4 = 0))).2) _) (fun e v hR => ?_)
     obtain ⟨he, hb⟩ := hR
     refine ⟨.int .i64 ((rdR sPlain (trim2 s) (decide (s.length % 4 = 0))).2), he, ?_⟩; clear he F a; intro a F
     refine hK _ _ ?_
     clear hK K
     replace O_37 := O_37.below hb
     replace O_42 := O_42.below hb
     replace O_47 := O_47.below hb
     replace M := M.below hb; clear hb; try clear u
     refine list_val F (F.wants 64 false rfl (by kernel_rfl) rfl true rfl) rfl rfl (.bool true) (ex_bin .eql _ _ _ _ rfl .i64 _ _ (F.e rfl) rfl _ (b_eql (by rw [hP]; rfl))) ?_; clear F a; intro a F
     refine list_val F (F.wants 64 false rfl (by kernel_rfl) rfl true rfl) rfl rfl (.bool true) (ex_move _ rfl _ (F.e rfl)) ?_; clear F a; intro a F
     refine list_val F (F.wants 68 true rfl (by kernel_rfl) rfl true rfl) rfl rfl (.slice A_42 (((rdR sPlain (trim2 s) (decide (s.length % 4 = 0))).1).length) c_42) (ex_move _ rfl _ (F.e rfl)) ?_; clear F a; intro a F
     refine list_do (F.wants 68 true rfl (by kernel_rfl) rfl true rfl) (fun K hK => ?_)
     refine ow_call rfl rfl F 8 #[.slice A_42 (((rdR sPlain (trim2 s) (decide (s.length % 4 = 0))).1).length) c_42] (ex_call 8 _ _ rfl rfl g4_ent_8 _ (map1 (F.e rfl))) (textPad_any ((rdR sPlain (trim2 s) (decide (s.length % 4 = 0))).1) _ _ _ O_42.rd.1 O_42.rd.2.2 (by omega)) (fun e u hR => ?_)
     obtain ⟨he, hb⟩ := hR
     refine ⟨.string (ST.str (encPad ((rdR sPlain (trim2 s) (decide (s.length % 4 = 0))).1))), he, ?_⟩; clear he F a; intro a F
     refine hK _ _ ?_
     clear hK K
     replace O_37 := O_37.below hb
     replace O_42 := O_42.below hb
     replace O_47 := O_47.below hb
     replace M := M.below hb; clear hb; try clear v
     refine list_val F (F.wants 68 true rfl (by kernel_rfl) rfl true rfl) rfl rfl (.string (ST.str s)) (ex_move _ rfl _ (F.e rfl)) ?_; clear F a; intro a F
     refine list_val F (F.wants 68 true rfl (by kernel_rfl) rfl true rfl) rfl rfl (.bool false) (ST.ex_neqs _ _ _ _ rfl (encPad ((rdR sPlain (trim2 s) (decide (s.length % 4 = 0))).1)) s (F.e rfl) (F.e rfl) false (by rw [decide_eq_true (rdPad_enc hP)]; rfl)) ?_; clear F a; intro a F
     refine list_val F (F.wants 64 false rfl (by kernel_rfl) rfl true rfl) rfl rfl (.bool false) (ex_pick_t _ _ _ rfl (F.e rfl) _ (F.e rfl)) ?_; clear F a; intro a F
     refine list_val F (wn rfl) rfl rfl (.bool false) (ex_pick_f _ _ _ rfl (F.e rfl) _ (F.e rfl)) ?_; clear F a; intro a F
     refine list_val F (wn rfl) rfl rfl (.bool false) (ex_move _ rfl _ (F.e rfl)) ?_; clear F a; intro a F
     refine list_val F (F.wants 75 false rfl (by kernel_rfl) rfl true rfl) rfl rfl (.int .i64 ((b16R s).2)) (ex_move _ rfl _ (F.e rfl)) ?_; clear F a; intro a F
     refine list_do (F.wants 75 false rfl (by kernel_rfl) rfl true rfl) (fun K hK => ?_)
     refine ow_call rfl rfl F 11 #[.int .i64 ((b16R s).2)] (ex_call 11 _ _ rfl rfl g4_ent_11 _ (map1 (F.e rfl))) (num_any ((b16R s).2) _) (fun e v hR => ?_)
     obtain ⟨he, hb⟩ := hR
     refine ⟨.int .i64 ((b16R s).2), he, ?_⟩; clear he F a; intro a F
     refine hK _ _ ?_
     clear hK K
     replace O_37 := O_37.below hb
     replace O_42 := O_42.below hb
     replace O_47 := O_47.below hb
     replace M := M.below hb; clear hb; try clear u
     refine list_val F (F.wants 75 false rfl (by kernel_rfl) rfl true rfl) rfl rfl (.bool true) (ex_bin .eql _ _ _ _ rfl .i64 _ _ (F.e rfl) rfl _ (b_eql (by rw [hH]; rfl))) ?_; clear F a; intro a F
     refine list_val F (F.wants 75 false rfl (by kernel_rfl) rfl true rfl) rfl rfl (.bool true) (ex_move _ rfl _ (F.e rfl)) ?_; clear F a; intro a F
     refine list_val F (F.wants 79 true rfl (by kernel_rfl) rfl true rfl) rfl rfl (.slice A_47 (((b16R s).1).length) c_47) (ex_move _ rfl _ (F.e rfl)) ?_; clear F a; intro a F
     refine list_do (F.wants 79 true rfl (by kernel_rfl) rfl true rfl) (fun K hK => ?_)
     refine ow_call rfl rfl F 6 #[.slice A_47 (((b16R s).1).length) c_47] (ex_call 6 _ _ rfl rfl g4_ent_6 _ (map1 (F.e rfl))) (text16_any ((b16R s).1) _ _ _ O_47.rd.1 O_47.rd.2.2 (by omega)) (fun e u hR => ?_)
     obtain ⟨he, hb⟩ := hR
     refine ⟨.string (ST.str (hex16 ((b16R s).1))), he, ?_⟩; clear he F a; intro a F
     refine hK _ _ ?_
     clear hK K
     replace O_37 := O_37.below hb
     replace O_42 := O_42.below hb
     replace O_47 := O_47.below hb
     replace M := M.below hb; clear hb; try clear v
     refine list_val F (F.wants 79 true rfl (by kernel_rfl) rfl true rfl) rfl rfl (.string (ST.str s)) (ex_move _ rfl _ (F.e rfl)) ?_; clear F a; intro a F
     refine list_val F (F.wants 79 true rfl (by kernel_rfl) rfl true rfl) rfl rfl (.bool false) (ST.ex_neqs _ _ _ _ rfl (hex16 ((b16R s).1)) s (F.e rfl) (F.e rfl) false (by rw [decide_eq_true (b16_enc hH)]; rfl)) ?_; clear F a; intro a F
     refine list_val F (F.wants 75 false rfl (by kernel_rfl) rfl true rfl) rfl rfl (.bool false) (ex_pick_t _ _ _ rfl (F.e rfl) _ (F.e rfl)) ?_; clear F a; intro a F
     refine list_val F (wn rfl) rfl rfl (.bool false) (ex_pick_f _ _ _ rfl (F.e rfl) _ (F.e rfl)) ?_; clear F a; intro a F
     refine list_val F (wn rfl) rfl rfl (.bool false) (ex_move _ rfl _ (F.e rfl)) ?_; clear F a; intro a F
     refine list_val F (F.wants 86 false rfl (by kernel_rfl) rfl true rfl) rfl rfl (.int .i64 ((n10R s).2)) (ex_move _ rfl _ (F.e rfl)) ?_; clear F a; intro a F
     refine list_do (F.wants 86 false rfl (by kernel_rfl) rfl true rfl) (fun K hK => ?_)
     refine ow_call rfl rfl F 11 #[.int .i64 ((n10R s).2)] (ex_call 11 _ _ rfl rfl g4_ent_11 _ (map1 (F.e rfl))) (num_any ((n10R s).2) _) (fun e v hR => ?_)
     obtain ⟨he, hb⟩ := hR
     refine ⟨.int .i64 ((n10R s).2), he, ?_⟩; clear he F a; intro a F
     refine hK _ _ ?_
     clear hK K
     replace O_37 := O_37.below hb
     replace O_42 := O_42.below hb
     replace O_47 := O_47.below hb
     replace M := M.below hb; clear hb; try clear u
     refine list_val F (F.wants 86 false rfl (by kernel_rfl) rfl true rfl) rfl rfl (.bool false) (ex_bin .eql _ _ _ _ rfl .i64 _ _ (F.e rfl) rfl _ (b_eql (beq_eq_false_iff_ne.2 hN))) ?_; clear F a; intro a F
     refine list_val F (F.wants 86 false rfl (by kernel_rfl) rfl true rfl) rfl rfl (.bool false) (ex_move _ rfl _ (F.e rfl)) ?_; clear F a; intro a F
     refine list_skip F (F.wants 90 false rfl (by kernel_rfl) rfl false rfl) rfl rfl ?_; clear F a; intro a F
     refine list_skip F (F.wants 90 false rfl (by kernel_rfl) rfl false rfl) rfl rfl ?_; clear F a; intro a F
     refine list_skip F (F.wants 90 false rfl (by kernel_rfl) rfl false rfl) rfl rfl ?_; clear F a; intro a F
     refine list_skip F (F.wants 90 false rfl (by kernel_rfl) rfl false rfl) rfl rfl ?_; clear F a; intro a F
     refine list_val F (F.wants 86 false rfl (by kernel_rfl) rfl true rfl) rfl rfl (.bool false) (ex_pick_f _ _ _ rfl (F.e rfl) _ rfl) ?_; clear F a; intro a F
     refine list_val F (wn rfl) rfl rfl (.bool false) (ex_pick_f _ _ _ rfl (F.e rfl) _ (F.e rfl)) ?_; clear F a; intro a F
     refine wpList_nil ?_
     replace F : Fr 139 a [(0, .slice (some ad) ls.length c), (2, .bool false), (3, .int .i64 ((al + s.length + 1 : Nat) : Int)), (4, .int .i64 ((i : Nat) : Int)), (5, .string (ST.str s)), (6, .slice A_37 (((rdR sUrl s (decide (s.length % 4 ≠ 1))).1).length) c_37), (7, .int .i64 ((rdR sUrl s (decide (s.length % 4 ≠ 1))).2)), (8, .slice A_42 (((rdR sPlain (trim2 s) (decide (s.length % 4 = 0))).1).length) c_42), (9, .int .i64 ((rdR sPlain (trim2 s) (decide (s.length % 4 = 0))).2)), (10, .slice A_47 (((b16R s).1).length) c_47), (11, .int .i64 ((b16R s).2)), (12, .int .i64 ((n10R s).1)), (13, .int .i64 ((n10R s).2)), (18, .bool true), (30, .bool false), (96, .bool false)] := F.keep ⟨rfl, rfl, rfl, rfl, rfl, rfl, rfl, rfl, rfl, rfl, rfl, rfl, rfl, rfl, rfl, rfl, trivial⟩
     refine then_n ?_
     refine wp_cond_false (F.e rfl) ?_
     refine wp_skip ?_
     refine only_n ?_
     exact ⟨F.keep ⟨rfl, rfl, rfl, rfl, rfl, rfl, rfl, rfl, rfl, rfl, rfl, rfl, rfl, rfl, rfl, trivial⟩, (by refine M.pick' [] _ ?_ (by decide); exact trivial)⟩
    by_cases hN : (n10R s).2 = 0
    ·
     refine wp_region_lit ?_
     refine list_val F (wn rfl) rfl rfl (.int .i64 ((rdR sUrl s (decide (s.length % 4 ≠ 1))).2)) (ex_move _ rfl _ (F.e rfl)) ?_; clear F a; intro a F
     refine list_do (wn rfl) (fun K hK => ?_)
     refine ow_call rfl rfl F 11 #[.int .i64 ((rdR sUrl s (decide (s.length % 4 ≠ 1))).2)] (ex_call 11 _ _ rfl rfl g4_ent_11 _ (map1 (F.e rfl))) (num_any ((rdR sUrl s (decide (s.length % 4 ≠ 1))).2) _) (fun e u hR => ?_)
     obtain ⟨he, hb⟩ := hR
     refine ⟨.int .i64 ((rdR sUrl s (decide (s.length % 4 ≠ 1))).2), he, ?_⟩; clear he F a; intro a F
     refine hK _ _ ?_
     clear hK K
     replace O_37 := O_37.below hb
     replace O_42 := O_42.below hb
     replace O_47 := O_47.below hb
     replace M := M.below hb; clear hb; try clear v
     refine list_val F (wn rfl) rfl rfl (.bool false) (ex_bin .eql _ _ _ _ rfl .i64 _ _ (F.e rfl) rfl _ (b_eql (beq_eq_false_iff_ne.2 hA))) ?_; clear F a; intro a F
     refine list_val F (wn rfl) rfl rfl (.bool false) (ex_move _ rfl _ (F.e rfl)) ?_; clear F a; intro a F
     refine list_skip F (F.wants 58 false rfl (by kernel_rfl) rfl false rfl) rfl rfl ?_; clear F a; intro a F
     refine list_skip F (F.wants 58 false rfl (by kernel_rfl) rfl false rfl) rfl rfl ?_; clear F a; intro a F
     refine list_skip F (F.wants 58 false rfl (by kernel_rfl) rfl false rfl) rfl rfl ?_; clear F a; intro a F
     refine list_skip F (F.wants 58 false rfl (by kernel_rfl) rfl false rfl) rfl rfl ?_; clear F a; intro a F
     refine list_val F (wn rfl) rfl rfl (.bool false) (ex_pick_f _ _ _ rfl (F.e rfl) _ rfl) ?_; clear F a; intro a F
     refine list_val F (wn rfl) rfl rfl (.bool false) (ex_move _ rfl _ (F.e rfl)) ?_; clear F a; intro a F
     refine list_val F (F.wants 64 false rfl (by kernel_rfl) rfl true rfl) rfl rfl (.int .i64 ((rdR sPlain (trim2 s) (decide (s.length % 4 = 0))).2)) (ex_move _ rfl _ (F.e rfl)) ?_; clear F a; intro a F
     refine list_do (F.wants 64 false rfl (by kernel_rfl) rfl true rfl) (fun K hK => ?_)
     refine ow_call rfl rfl F 11 #[.int .i64 ((rdR sPlain (trim2 s) (decide (s.length % 4 = 0))).2)] (ex_call 11 _ _ rfl rfl g4_ent_11 _ (map1 (F.e rfl))) (num_any ((rdR sPlain (trim2 s) (decide (s.length % 4 = 0))).2) _) (fun e v hR => ?_)
     obtain ⟨he, hb⟩ := hR
     refine ⟨.int .i64 ((rdR sPlain (trim2 s) (decide (s.length % 4 = 0))).2), he, ?_⟩; clear he F a; intro a F
     refine hK _ _ ?_
     clear hK K
     replace O_37 := O_37.below hb
     replace O_42 := O_42.below hb
     replace O_47 := O_47.below hb
     replace M := M.below hb; clear hb; try clear u
     refine list_val F (F.wants 64 false rfl (by kernel_rfl) rfl true rfl) rfl rfl (.bool true) (ex_bin .eql _ _ _ _ rfl .i64 _ _ (F.e rfl) rfl _ (b_eql (by rw [hP]; rfl))) ?_; clear F a; intro a F
     refine list_val F (F.wants 64 false rfl (by kernel_rfl) rfl true rfl) rfl rfl (.bool true) (ex_move _ rfl _ (F.e rfl)) ?_; clear F a; intro a F
     refine list_val F (F.wants 68 true rfl (by kernel_rfl) rfl true rfl) rfl rfl (.slice A_42 (((rdR sPlain (trim2 s) (decide (s.length % 4 = 0))).1).length) c_42) (ex_move _ rfl _ (F.e rfl)) ?_; clear F a; intro a F
     refine list_do (F.wants 68 true rfl (by kernel_rfl) rfl true rfl) (fun K hK => ?_)
     refine ow_call rfl rfl F 8 #[.slice A_42 (((rdR sPlain (trim2 s) (decide (s.length % 4 = 0))).1).length) c_42] (ex_call 8 _ _ rfl rfl g4_ent_8 _ (map1 (F.e rfl))) (textPad_any ((rdR sPlain (trim2 s) (decide (s.length % 4 = 0))).1) _ _ _ O_42.rd.1 O_42.rd.2.2 (by omega)) (fun e u hR => ?_)
     obtain ⟨he, hb⟩ := hR
     refine ⟨.string (ST.str (encPad ((rdR sPlain (trim2 s) (decide (s.length % 4 = 0))).1))), he, ?_⟩; clear he F a; intro a F
     refine hK _ _ ?_
     clear hK K
     replace O_37 := O_37.below hb
     replace O_42 := O_42.below hb
     replace O_47 := O_47.below hb
     replace M := M.below hb; clear hb; try clear v
     refine list_val F (F.wants 68 true rfl (by kernel_rfl) rfl true rfl) rfl rfl (.string (ST.str s)) (ex_move _ rfl _ (F.e rfl)) ?_; clear F a; intro a F
     refine list_val F (F.wants 68 true rfl (by kernel_rfl) rfl true rfl) rfl rfl (.bool false) (ST.ex_neqs _ _ _ _ rfl (encPad ((rdR sPlain (trim2 s) (decide (s.length % 4 = 0))).1)) s (F.e rfl) (F.e rfl) false (by rw [decide_eq_true (rdPad_enc hP)]; rfl)) ?_; clear F a; intro a F
     refine list_val F (F.wants 64 false rfl (by kernel_rfl) rfl true rfl) rfl rfl (.bool false) (ex_pick_t _ _ _ rfl (F.e rfl) _ (F.e rfl)) ?_; clear F a; intro a F
     refine list_val F (wn rfl) rfl rfl (.bool false) (ex_pick_f _ _ _ rfl (F.e rfl) _ (F.e rfl)) ?_; clear F a; intro a F
     refine list_val F (wn rfl) rfl rfl (.bool false) (ex_move _ rfl _ (F.e rfl)) ?_; clear F a; intro a F
     refine list_val F (F.wants 75 false rfl (by kernel_rfl) rfl true rfl) rfl rfl (.int .i64 ((b16R s).2)) (ex_move _ rfl _ (F.e rfl)) ?_; clear F a; intro a F
     refine list_do (F.wants 75 false rfl (by kernel_rfl) rfl true rfl) (fun K hK => ?_)
     refine ow_call rfl rfl F 11 #[.int .i64 ((b16R s).2)] (ex_call 11 _ _ rfl rfl g4_ent_11 _ (map1 (F.e rfl))) (num_any ((b16R s).2) _) (fun e v hR => ?_)
     obtain ⟨he, hb⟩ := hR
     refine ⟨.int .i64 ((b16R s).2), he, ?_⟩; clear he F a; intro a F
     refine hK _ _ ?_
     clear hK K
     replace O_37 := O_37.below hb
     replace O_42 := O_42.below hb
     replace O_47 := O_47.below hb
     replace M := M.below hb; clear hb; try clear u
     refine list_val F (F.wants 75 false rfl (by kernel_rfl) rfl true rfl) rfl rfl (.bool false) (ex_bin .eql _ _ _ _ rfl .i64 _ _ (F.e rfl) rfl _ (b_eql (beq_eq_false_iff_ne.2 hH))) ?_; clear F a; intro a F
     refine list_val F (F.wants 75 false rfl (by kernel_rfl) rfl true rfl) rfl rfl (.bool false) (ex_move _ rfl _ (F.e rfl)) ?_; clear F a; intro a F
     refine list_skip F (F.wants 79 false rfl (by kernel_rfl) rfl false rfl) rfl rfl ?_; clear F a; intro a F
     refine list_skip F (F.wants 79 false rfl (by kernel_rfl) rfl false rfl) rfl rfl ?_; clear F a; intro a F
     refine list_skip F (F.wants 79 false rfl (by kernel_rfl) rfl false rfl) rfl rfl ?_; clear F a; intro a F
     refine list_skip F (F.wants 79 false rfl (by kernel_rfl) rfl false rfl) rfl rfl ?_; clear F a; intro a F
     refine list_val F (F.wants 75 false rfl (by kernel_rfl) rfl true rfl) rfl rfl (.bool false) (ex_pick_f _ _ _ rfl (F.e rfl) _ rfl) ?_; clear F a; intro a F
     refine list_val F (wn rfl) rfl rfl (.bool false) (ex_pick_f _ _ _ rfl (F.e rfl) _ (F.e rfl)) ?_; clear F a; intro a F
     refine list_val F (wn rfl) rfl rfl (.bool false) (ex_move _ rfl _ (F.e rfl)) ?_; clear F a; intro a F
     refine list_val F (F.wants 86 false rfl (by kernel_rfl) rfl true rfl) rfl rfl (.int .i64 ((n10R s).2)) (ex_move _ rfl _ (F.e rfl)) ?_; clear F a; intro a F
     refine list_do (F.wants 86 false rfl (by kernel_rfl) rfl true rfl) (fun K hK => ?_)
     refine ow_call rfl rfl F 11 #[.int .i64 ((n10R s).2)] (ex_call 11 _ _ rfl rfl g4_ent_11 _ (map1 (F.e rfl))) (num_any ((n10R s).2) _) (fun e u hR => ?_)
     obtain ⟨he, hb⟩ := hR
     refine ⟨.int .i64 ((n10R s).2), he, ?_⟩; clear he F a; intro a F
     refine hK _ _ ?_
     clear hK K
     replace O_37 := O_37.below hb
     replace O_42 := O_42.below hb
     replace O_47 := O_47.below hb
     replace M := M.below hb; clear hb; try clear v
     refine list_val F (F.wants 86 false rfl (by kernel_rfl) rfl true rfl) rfl rfl (.bool true) (ex_bin .eql _ _ _ _ rfl .i64 _ _ (F.e rfl) rfl _ (b_eql (by rw [hN]; rfl))) ?_; clear F a; intro a F
     refine list_val F (F.wants 86 false rfl (by kernel_rfl) rfl true rfl) rfl rfl (.bool true) (ex_move _ rfl _ (F.e rfl)) ?_; clear F a; intro a F
     refine list_val F (F.wants 90 true rfl (by kernel_rfl) rfl true rfl) rfl rfl (.int .i64 ((n10R s).1)) (ex_move _ rfl _ (F.e rfl)) ?_; clear F a; intro a F
     refine list_do (F.wants 90 true rfl (by kernel_rfl) rfl true rfl) (fun K hK => ?_)
     refine ow_call rfl rfl F 18 #[.int .i64 ((n10R s).1)] (ex_call 18 _ _ rfl rfl g4_ent_18 _ (map1 (F.e rfl))) (text10_any (n10R s).1 hbd.1 hbd.2 _ (hE.below M.bel)) (fun e v hR => ?_)
     obtain ⟨he, hb⟩ := hR
     refine ⟨.string (ST.str (Lib.itoa (n10R s).1)), he, ?_⟩; clear he F a; intro a F
     refine hK _ _ ?_
     clear hK K
     replace O_37 := O_37.below hb
     replace O_42 := O_42.below hb
     replace O_47 := O_47.below hb
     replace M := M.below hb; clear hb; try clear u
     refine list_val F (F.wants 90 true rfl (by kernel_rfl) rfl true rfl) rfl rfl (.string (ST.str s)) (ex_move _ rfl _ (F.e rfl)) ?_; clear F a; intro a F
     refine list_val F (F.wants 90 true rfl (by kernel_rfl) rfl true rfl) rfl rfl (.bool false) (ST.ex_neqs _ _ _ _ rfl (Lib.itoa (n10R s).1) s (F.e rfl) (F.e rfl) false (by rw [decide_eq_true (n10_enc hN)]; rfl)) ?_; clear F a; intro a F
     refine list_val F (F.wants 86 false rfl (by kernel_rfl) rfl true rfl) rfl rfl (.bool false) (ex_pick_t _ _ _ rfl (F.e rfl) _ (F.e rfl)) ?_; clear F a; intro a F
     refine list_val F (wn rfl) rfl rfl (.bool false) (ex_pick_f _ _ _ rfl (F.e rfl) _ (F.e rfl)) ?_; clear F a; intro a F
     refine wpList_nil ?_
     replace F : Fr 139 a [(0, .slice (some ad) ls.length c), (2, .bool false), (3, .int .i64 ((al + s.length + 1 : Nat) : Int)), (4, .int .i64 ((i : Nat) : Int)), (5, .string (ST.str s)), (6, .slice A_37 (((rdR sUrl s (decide (s.length % 4 ≠ 1))).1).length) c_37), (7, .int .i64 ((rdR sUrl s (decide (s.length % 4 ≠ 1))).2)), (8, .slice A_42 (((rdR sPlain (trim2 s) (decide (s.length % 4 = 0))).1).length) c_42), (9, .int .i64 ((rdR sPlain (trim2 s) (decide (s.length % 4 = 0))).2)), (10, .slice A_47 (((b16R s).1).length) c_47), (11, .int .i64 ((b16R s).2)), (12, .int .i64 ((n10R s).1)), (13, .int .i64 ((n10R s).2)), (18, .bool true), (30, .bool false), (96, .bool false)] := F.keep ⟨rfl, rfl, rfl, rfl, rfl, rfl, rfl, rfl, rfl, rfl, rfl, rfl, rfl, rfl, rfl, rfl, trivial⟩
     refine then_n ?_
     refine wp_cond_false (F.e rfl) ?_
     refine wp_skip ?_
     refine only_n ?_
     exact ⟨F.keep ⟨rfl, rfl, rfl, rfl, rfl, rfl, rfl, rfl, rfl, rfl, rfl, rfl, rfl, rfl, rfl, trivial⟩, (by refine M.pick' [] _ ?_ (by decide); exact trivial)⟩
    refine wp_region_lit ?_
    refine list_val F (wn rfl) rfl rfl (.int .i64 ((rdR sUrl s (decide (s.length % 4 ≠ 1))).2)) (ex_move _ rfl _ (F.e rfl)) ?_; clear F a; intro a F
    refine list_do (wn rfl) (fun K hK => ?_)
    refine ow_call rfl rfl F 11 #[.int .i64 ((rdR sUrl s (decide (s.length % 4 ≠ 1))).2)] (ex_call 11 _ _ rfl rfl g4_ent_11 _ (map1 (F.e rfl))) (num_any ((rdR sUrl s (decide (s.length % 4 ≠ 1))).2) _) (fun e u hR => ?_)
    obtain ⟨he, hb⟩ := hR
    refine ⟨.int .i64 ((rdR sUrl s (decide (s.length % 4 ≠ 1))).2), he, ?_⟩; clear he F a; intro a F
    refine hK _ _ ?_
    clear hK K
    replace O_37 := O_37.below hb
    replace O_42 := O_42.below hb
    replace O_47 := O_47.below hb
    replace M := M.below hb; clear hb; try clear v
    refine list_val F (wn rfl) rfl rfl (.bool false) (ex_bin .eql _ _ _ _ rfl .i64 _ _ (F.e rfl) rfl _ (b_eql (beq_eq_false_iff_ne.2 hA))) ?_; clear F a; intro a F
    refine list_val F (wn rfl) rfl rfl (.bool false) (ex_move _ rfl _ (F.e rfl)) ?_; clear F a; intro a F
    refine list_skip F (F.wants 58 false rfl (by kernel_rfl) rfl false rfl) rfl rfl ?_; clear F a; intro a F
    refine list_skip F (F.wants 58 false rfl (by kernel_rfl) rfl false rfl) rfl rfl ?_; clear F a; intro a F
    refine list_skip F (F.wants 58 false rfl (by kernel_rfl) rfl false rfl) rfl rfl ?_; clear F a; intro a F
    refine list_skip F (F.wants 58 false rfl (by kernel_rfl) rfl false rfl) rfl rfl ?_; clear F a; intro a F
    refine list_val F (wn rfl) rfl rfl (.bool false) (ex_pick_f _ _ _ rfl (F.e rfl) _ rfl) ?_; clear F a; intro a F
    refine list_val F (wn rfl) rfl rfl (.bool false) (ex_move _ rfl _ (F.e rfl)) ?_; clear F a; intro a F
    refine list_val F (F.wants 64 false rfl (by kernel_rfl) rfl true rfl) rfl rfl (.int .i64 ((rdR sPlain (trim2 s) (decide (s.length % 4 = 0))).2)) (ex_move _ rfl _ (F.e rfl)) ?_; clear F a; intro a F
    refine list_do (F.wants 64 false rfl (by kernel_rfl) rfl true rfl) (fun K hK => ?_)
    refine ow_call rfl rfl F 11 #[.int .i64 ((rdR sPlain (trim2 s) (decide (s.length % 4 = 0))).2)] (ex_call 11 _ _ rfl rfl g4_ent_11 _ (map1 (F.e rfl))) (num_any ((rdR sPlain (trim2 s) (decide (s.length % 4 = 0))).2) _) (fun e v hR => ?_)
    obtain ⟨he, hb⟩ := hR
    refine ⟨.int .i64 ((rdR sPlain (trim2 s) (decide (s.length % 4 = 0))).2), he, ?_⟩; clear he F a; intro a F
    refine hK _ _ ?_
    clear hK K
    replace O_37 := O_37.below hb
    replace O_42 := O_42.below hb
    replace O_47 := O_47.below hb
    replace M := M.below hb; clear hb; try clear u
    refine list_val F (F.wants 64 false rfl (by kernel_rfl) rfl true rfl) rfl rfl (.bool true) (ex_bin .eql _ _ _ _ rfl .i64 _ _ (F.e rfl) rfl _ (b_eql (by rw [hP]; rfl))) ?_; clear F a; intro a F
    refine list_val F (F.wants 64 false rfl (by kernel_rfl) rfl true rfl) rfl rfl (.bool true) (ex_move _ rfl _ (F.e rfl)) ?_; clear F a; intro a F
    refine list_val F (F.wants 68 true rfl (by kernel_rfl) rfl true rfl) rfl rfl (.slice A_42 (((rdR sPlain (trim2 s) (decide (s.length % 4 = 0))).1).length) c_42) (ex_move _ rfl _ (F.e rfl)) ?_; clear F a; intro a F
    refine list_do (F.wants 68 true rfl (by kernel_rfl) rfl true rfl) (fun K hK => ?_)
    refine ow_call rfl rfl F 8 #[.slice A_42 (((rdR sPlain (trim2 s) (decide (s.length % 4 = 0))).1).length) c_42] (ex_call 8 _ _ rfl rfl g4_ent_8 _ (map1 (F.e rfl))) (textPad_any ((rdR sPlain (trim2 s) (decide (s.length % 4 = 0))).1) _ _ _ O_42.rd.1 O_42.rd.2.2 (by omega)) (fun e u hR => ?_)
    obtain ⟨he, hb⟩ := hR
    refine ⟨.string (ST.str (encPad ((rdR sPlain (trim2 s) (decide (s.length % 4 = 0))).1))), he, ?_⟩; clear he F a; intro a F
    refine hK _ _ ?_
    clear hK K
    replace O_37 := O_37.below hb
    replace O_42 := O_42.below hb
    replace O_47 := O_47.below hb
    replace M := M.below hb; clear hb; try clear v
    refine list_val F (F.wants 68 true rfl (by kernel_rfl) rfl true rfl) rfl rfl (.string (ST.str s)) (ex_move _ rfl _ (F.e rfl)) ?_; clear F a; intro a F
    refine list_val F (F.wants 68 true rfl (by kernel_rfl) rfl true rfl) rfl rfl (.bool false) (ST.ex_neqs _ _ _ _ rfl (encPad ((rdR sPlain (trim2 s) (decide (s.length % 4 = 0))).1)) s (F.e rfl) (F.e rfl) false (by rw [decide_eq_true (rdPad_enc hP)]; rfl)) ?_; clear F a; intro a F
    refine list_val F (F.wants 64 false rfl (by kernel_rfl) rfl true rfl) rfl rfl (.bool false) (ex_pick_t _ _ _ rfl (F.e rfl) _ (F.e rfl)) ?_; clear F a; intro a F
    refine list_val F (wn rfl) rfl rfl (.bool false) (ex_pick_f _ _ _ rfl (F.e rfl) _ (F.e rfl)) ?_; clear F a; intro a F
    refine list_val F (wn rfl) rfl rfl (.bool false) (ex_move _ rfl _ (F.e rfl)) ?_; clear F a; intro a F
    refine list_val F (F.wants 75 false rfl (by kernel_rfl) rfl true rfl) rfl rfl (.int .i64 ((b16R s).2)) (ex_move _ rfl _ (F.e rfl)) ?_; clear F a; intro a F
    refine list_do (F.wants 75 false rfl (by kernel_rfl) rfl true rfl) (fun K hK => ?_)
    refine ow_call rfl rfl F 11 #[.int .i64 ((b16R s).2)] (ex_call 11 _ _ rfl rfl g4_ent_11 _ (map1 (F.e rfl))) (num_any ((b16R s).2) _) (fun e v hR => ?_)
    obtain ⟨he, hb⟩ := hR
    refine ⟨.int .i64 ((b16R s).2), he, ?_⟩; clear he F a; intro a F
    refine hK _ _ ?_
    clear hK K
    replace O_37 := O_37.below hb
    replace O_42 := O_42.below hb
    replace O_47 := O_47.below hb
    replace M := M.below hb; clear hb; try clear u
    refine list_val F (F.wants 75 false rfl (by kernel_rfl) rfl true rfl) rfl rfl (.bool false) (ex_bin .eql _ _ _ _ rfl .i64 _ _ (F.e rfl) rfl _ (b_eql (beq_eq_false_iff_ne.2 hH))) ?_; clear F a; intro a F
    refine list_val F (F.wants 75 false rfl (by kernel_rfl) rfl true rfl) rfl rfl (.bool false) (ex_move _ rfl _ (F.e rfl)) ?_; clear F a; intro a F
    refine list_skip F (F.wants 79 false rfl (by kernel_rfl) rfl false rfl) rfl rfl ?_; clear F a; intro a F
    refine list_skip F (F.wants 79 false rfl (by kernel_rfl) rfl false rfl) rfl rfl ?_; clear F a; intro a F
    refine list_skip F (F.wants 79 false rfl (by kernel_rfl) rfl false rfl) rfl rfl ?_; clear F a; intro a F
    refine list_skip F (F.wants 79 false rfl (by kernel_rfl) rfl false rfl) rfl rfl ?_; clear F a; intro a F
    refine list_val F (F.wants 75 false rfl (by kernel_rfl) rfl true rfl) rfl rfl (.bool false) (ex_pick_f _ _ _ rfl (F.e rfl) _ rfl) ?_; clear F a; intro a F
    refine list_val F (wn rfl) rfl rfl (.bool false) (ex_pick_f _ _ _ rfl (F.e rfl) _ (F.e rfl)) ?_; clear F a; intro a F
    refine list_val F (wn rfl) rfl rfl (.bool false) (ex_move _ rfl _ (F.e rfl)) ?_; clear F a; intro a F
    refine list_val F (F.wants 86 false rfl (by kernel_rfl) rfl true rfl) rfl rfl (.int .i64 ((n10R s).2)) (ex_move _ rfl _ (F.e rfl)) ?_; clear F a; intro a F
    refine list_do (F.wants 86 false rfl (by kernel_rfl) rfl true rfl) (fun K hK => ?_)
    refine ow_call rfl rfl F 11 #[.int .i64 ((n10R s).2)] (ex_call 11 _ _ rfl rfl g4_ent_11 _ (map1 (F.e rfl))) (num_any ((n10R s).2) _) (fun e u hR => ?_)
    obtain ⟨he, hb⟩ := hR
    refine ⟨.int .i64 ((n10R s).2), he, ?_⟩; clear he F a; intro a F
    refine hK _ _ ?_
    clear hK K
    replace O_37 := O_37.below hb
    replace O_42 := O_42.below hb
    replace O_47 := O_47.below hb
    replace M := M.below hb; clear hb; try clear v
    refine list_val F (F.wants 86 false rfl (by kernel_rfl) rfl true rfl) rfl rfl (.bool false) (ex_bin .eql _ _ _ _ rfl .i64 _ _ (F.e rfl) rfl _ (b_eql (beq_eq_false_iff_ne.2 hN))) ?_; clear F a; intro a F
    refine list_val F (F.wants 86 false rfl (by kernel_rfl) rfl true rfl) rfl rfl (.bool false) (ex_move _ rfl _ (F.e rfl)) ?_; clear F a; intro a F
    refine list_skip F (F.wants 90 false rfl (by kernel_rfl) rfl false rfl) rfl rfl ?_; clear F a; intro a F
    refine list_skip F (F.wants 90 false rfl (by kernel_rfl) rfl false rfl) rfl rfl ?_; clear F a; intro a F
    refine list_skip F (F.wants 90 false rfl (by kernel_rfl) rfl false rfl) rfl rfl ?_; clear F a; intro a F
    refine list_skip F (F.wants 90 false rfl (by kernel_rfl) rfl false rfl) rfl rfl ?_; clear F a; intro a F
    refine list_val F (F.wants 86 false rfl (by kernel_rfl) rfl true rfl) rfl rfl (.bool false) (ex_pick_f _ _ _ rfl (F.e rfl) _ rfl) ?_; clear F a; intro a F
    refine list_val F (wn rfl) rfl rfl (.bool false) (ex_pick_f _ _ _ rfl (F.e rfl) _ (F.e rfl)) ?_; clear F a; intro a F
    refine wpList_nil ?_
    replace F : Fr 139 a [(0, .slice (some ad) ls.length c), (2, .bool false), (3, .int .i64 ((al + s.length + 1 : Nat) : Int)), (4, .int .i64 ((i : Nat) : Int)), (5, .string (ST.str s)), (6, .slice A_37 (((rdR sUrl s (decide (s.length % 4 ≠ 1))).1).length) c_37), (7, .int .i64 ((rdR sUrl s (decide (s.length % 4 ≠ 1))).2)), (8, .slice A_42 (((rdR sPlain (trim2 s) (decide (s.length % 4 = 0))).1).length) c_42), (9, .int .i64 ((rdR sPlain (trim2 s) (decide (s.length % 4 = 0))).2)), (10, .slice A_47 (((b16R s).1).length) c_47), (11, .int .i64 ((b16R s).2)), (12, .int .i64 ((n10R s).1)), (13, .int .i64 ((n10R s).2)), (18, .bool true), (30, .bool false), (96, .bool false)] := F.keep ⟨rfl, rfl, rfl, rfl, rfl, rfl, rfl, rfl, rfl, rfl, rfl, rfl, rfl, rfl, rfl, rfl, trivial⟩
    refine then_n ?_
    refine wp_cond_false (F.e rfl) ?_
    refine wp_skip ?_
    refine only_n ?_
    exact ⟨F.keep ⟨rfl, rfl, rfl, rfl, rfl, rfl, rfl, rfl, rfl, rfl, rfl, rfl, rfl, rfl, rfl, trivial⟩, (by refine M.pick' [] _ ?_ (by decide); exact trivial)⟩
   by_cases hH : (b16R s).2 = 0
   ·
    by_cases hN : (n10R s).2 = 0
    ·
     refine wp_region_lit ?_
     refine list_val F (wn rfl) rfl rfl (.int .i64 ((rdR sUrl s (decide (s.length % 4 ≠ 1))).2)) (ex_move _ rfl _ (F.e rfl)) ?_; clear F a; intro a F
     refine list_do (wn rfl) (fun K hK => ?_)
     refine ow_call rfl rfl F 11 #[.int .i64 ((rdR sUrl s (decide (s.length % 4 ≠ 1))).2)] (ex_call 11 _ _ rfl rfl g4_ent_11 _ (map1 (F.e rfl))) (num_any ((rdR sUrl s (decide (s.length % 4 ≠ 1))).2) _) (fun e u hR => ?_)
     obtain ⟨he, hb⟩ := hR
     refine ⟨.int .i64 ((rdR sUrl s (decide (s.length % 4 ≠ 1))).2), he, ?_⟩; clear he F a; intro a F
     refine hK _ _ ?_
     clear hK K
     replace O_37 := O_37.below hb
     replace O_42 := O_42.below hb
     replace O_47 := O_47.below hb
     replace M := M.below hb; clear hb; try clear v
     refine list_val F (wn rfl) rfl rfl (.bool false) (ex_bin .eql _ _ _ _ rfl .i64 _ _ (F.e rfl) rfl _ (b_eql (beq_eq_false_iff_ne.2 hA))) ?_; clear F a; intro a F
     refine list_val F (wn rfl) rfl rfl (.bool false) (ex_move _ rfl _ (F.e rfl)) ?_; clear F a; intro a F
     refine list_skip F (F.wants 58 false rfl (by kernel_rfl) rfl false rfl) rfl rfl ?_; clear F a; intro a F
     refine list_skip F (F.wants 58 false rfl (by kernel_rfl) rfl false rfl) rfl rfl ?_; clear F a; intro a F
     refine list_skip F (F.wants 58 false rfl (by kernel_rfl) rfl false rfl) rfl rfl ?_; clear F a; intro a F
     refine list_skip F (F.wants 58 false rfl (by kernel_rfl) rfl false rfl) rfl rfl ?_; clear F a; intro a F
     refine list_val F (wn rfl) rfl rfl (.bool false) (ex_pick_f _ _ _ rfl (F.e rfl) _ rfl) ?_; clear F a; intro a F
     refine list_val F (wn rfl) rfl rfl (.bool false) (ex_move _ rfl _ (F.e rfl)) ?_; clear F a; intro a F
     refine list_val F (F.wants 64 false rfl (by kernel_rfl) rfl true rfl) rfl rfl (.int .i64 ((rdR sPlain (trim2 s) (decide (s.length % 4 = 0))).2)) (ex_move _ rfl _ (F.e rfl)) ?_; clear F a; intro a F
     refine list_do (F.wants 64 false rfl (by kernel_rfl) rfl true rfl) (fun K hK => ?_)
     refine ow_call rfl rfl F 11 #[.int .i64 ((rdR sPlain (trim2 s) (decide (s.length % 4 = 0))).2)] (ex_call 11 _ _ rfl rfl g4_ent_11 _ (map1 (F.e rfl))) (num_any ((rdR sPlain (trim2 s) (decide (s.length % 4 = 0))).2) _) (fun e v hR => ?_)
     obtain ⟨he, hb⟩ := hR
     refine ⟨.int .i64 ((rdR sPlain (trim2 s) (decide (s.length % 4 = 0))).2), he, ?_⟩; clear he F a; intro a F
     refine hK _ _ ?_
     clear hK K
     replace O_37 := O_37.below hb
     replace O_42 := O_42.below hb
     replace O_47 := O_47.below hb
     replace M := M.below hb; clear hb; try clear u
     refine list_val F (F.wants 64 false rfl (by kernel_rfl) rfl true rfl) rfl rfl (.bool false) (ex_bin .eql _ _ _ _ rfl .i64 _ _ (F.e rfl) rfl _ (b_eql (beq_eq_false_iff_ne.2 hP))) ?_; clear F a; intro a F
     refine list_val F (F.wants 64 false rfl (by kernel_rfl) rfl true rfl) rfl rfl (.bool false) (ex_move _ rfl _ (F.e rfl)) ?_; clear F a; intro a F
     refine list_skip F (F.wants 68 false rfl (by kernel_rfl) rfl false rfl) rfl rfl ?_; clear F a; intro a F
     refine list_skip F (F.wants 68 false rfl (by kernel_rfl) rfl false rfl) rfl rfl ?_; clear F a; intro a F
     refine list_skip F (F.wants 68 false rfl (by kernel_rfl) rfl false rfl) rfl rfl ?_; clear F a; intro a F
     refine list_skip F (F.wants 68 false rfl (by kernel_rfl) rfl false rfl) rfl rfl ?_; clear F a; intro a F
     refine list_val F (F.wants 64 false rfl (by kernel_rfl) rfl true rfl) rfl rfl (.bool false) (ex_pick_f _ _ _ rfl (F.e rfl) _ rfl) ?_; clear F a; intro a F
     refine list_val F (wn rfl) rfl rfl (.bool false) (ex_pick_f _ _ _ rfl (F.e rfl) _ (F.e rfl)) ?_; clear F a; intro a F
     refine list_val F (wn rfl) rfl rfl (.bool false) (ex_move _ rfl _ (F.e rfl)) ?_; clear F a; intro a F
     refine list_val F (F.wants 75 false rfl (by kernel_rfl) rfl true rfl) rfl rfl (.int .i64 ((b16R s).2)) (ex_move _ rfl _ (F.e rfl)) ?_; clear F a; intro a F
     refine list_do (F.wants 75 false rfl (by kernel_rfl) rfl true rfl) (fun K hK => ?_)
     refine ow_call rfl rfl F 11 #[.int .i64 ((b16R s).2)] (ex_call 11 _ _ rfl rfl g4_ent_11 _ (map1 (F.e rfl))) (num_any ((b16R s).2) _) (fun e u hR => ?_)
     obtain ⟨he, hb⟩ := hR
     refine ⟨.int .i64 ((b16R s).2), he, ?_⟩; clear he F a; intro a F
     refine hK _ _ ?_
     clear hK K
     replace O_37 := O_37.below hb
     replace O_42 := O_42.below hb
     replace O_47 := O_47.below hb
     replace M := M.below hb; clear hb; try clear v
     refine list_val F (F.wants 75 false rfl (by kernel_rfl) rfl true rfl) rfl rfl (.bool true) (ex_bin .eql _ _ _ _ rfl .i64 _ _ (F.e rfl) rfl _ (b_eql (by rw [hH]; rfl))) ?_; clear F a; intro a F
     refine list_val F (F.wants 75 false rfl (by kernel_rfl) rfl true rfl) rfl rfl (.bool true) (ex_move _ rfl _ (F.e rfl)) ?_; clear F a; intro a F
     refine list_val F (F.wants 79 true rfl (by kernel_rfl) rfl true rfl) rfl rfl (.slice A_47 (((b16R s).1).length) c_47) (ex_move _ rfl _ (F.e rfl)) ?_; clear F a; intro a F
     refine list_do (F.wants 79 true rfl (by kernel_rfl) rfl true rfl) (fun K hK => ?_)
     refine ow_call rfl rfl F 6 #[.slice A_47 (((b16R s).1).length) c_47] (ex_call 6 _ _ rfl rfl g4_ent_6 _ (map1 (F.e rfl))) (text16_any ((b16R s).1) _ _ _ O_47.rd.1 O_47.rd.2.2 (by omega)) (fun e v hR => ?_)
     obtain ⟨he, hb⟩ := hR
     refine ⟨.string (ST.str (hex16 ((b16R s).1))), he, ?_⟩; clear he F a; intro a F
     refine hK _ _ ?_
     clear hK K
     replace O_37 := O_37.below hb
     replace O_42 := O_42.below hb
     replace O_47 := O_47.below hb
     replace M := M.below hb; clear hb; try clear u
     refine list_val F (F.wants 79 true rfl (by kernel_rfl) rfl true rfl) rfl rfl (.string (ST.str s)) (ex_move _ rfl _ (F.e rfl)) ?_; clear F a; intro a F
     refine list_val F (F.wants 79 true rfl (by kernel_rfl) rfl true rfl) rfl rfl (.bool false) (ST.ex_neqs _ _ _ _ rfl (hex16 ((b16R s).1)) s (F.e rfl) (F.e rfl) false (by rw [decide_eq_true (b16_enc hH)]; rfl)) ?_; clear F a; intro a F
     refine list_val F (F.wants 75 false rfl (by kernel_rfl) rfl true rfl) rfl rfl (.bool false) (ex_pick_t _ _ _ rfl (F.e rfl) _ (F.e rfl)) ?_; clear F a; intro a F
     refine list_val F (wn rfl) rfl rfl (.bool false) (ex_pick_f _ _ _ rfl (F.e rfl) _ (F.e rfl)) ?_; clear F a; intro a F
     refine list_val F (wn rfl) rfl rfl (.bool false) (ex_move _ rfl _ (F.e rfl)) ?_; clear F a; intro a F
     refine list_val F (F.wants 86 false rfl (by kernel_rfl) rfl true rfl) rfl rfl (.int .i64 ((n10R s).2)) (ex_move _ rfl _ (F.e rfl)) ?_; clear F a; intro a F
     refine list_do (F.wants 86 false rfl (by kernel_rfl) rfl true rfl) (fun K hK => ?_)
     refine ow_call rfl rfl F 11 #[.int .i64 ((n10R s).2)] (ex_call 11 _ _ rfl rfl g4_ent_11 _ (map1 (F.e rfl))) (num_any ((n10R s).2) _) (fun e u hR => ?_)
     obtain ⟨he, hb⟩ := hR
     refine ⟨.int .i64 ((n10R s).2), he, ?_⟩; clear he F a; intro a F
     refine hK _ _ ?_
     clear hK K
     replace O_37 := O_37.below hb
     replace O_42 := O_42.below hb
     replace O_47 := O_47.below hb
     replace M := M.below hb; clear hb; try clear v
     refine list_val F (F.wants 86 false rfl (by kernel_rfl) rfl true rfl) rfl rfl (.bool true) (ex_bin .eql _ _ _ _ rfl .i64 _ _ (F.e rfl) rfl _ (b_eql (by rw [hN]; rfl))) ?_; clear F a; intro a F
     refine list_val F (F.wants 86 false rfl (by kernel_rfl) rfl true rfl) rfl rfl (.bool true) (ex_move _ rfl _ (F.e rfl)) ?_; clear F a; intro a F
     refine list_val F (F.wants 90 true rfl (by kernel_rfl) rfl true rfl) rfl rfl (.int .i64 ((n10R s).1)) (ex_move _ rfl _ (F.e rfl)) ?_; clear F a; intro a F
     refine list_do (F.wants 90 true rfl (by kernel_rfl) rfl true rfl) (fun K hK => ?_)
     refine ow_call rfl rfl F 18 #[.int .i64 ((n10R s).1)] (ex_call 18 _ _ rfl rfl g4_ent_18 _ (map1 (F.e rfl))) (text10_any (n10R s).1 hbd.1 hbd.2 _ (hE.below M.bel)) (fun e v hR => ?_)
     obtain ⟨he, hb⟩ := hR
     refine ⟨.string (ST.str (Lib.itoa (n10R s).1)), he, ?_⟩; clear he F a; intro a F
     refine hK _ _ ?_
     clear hK K
     replace O_37 := O_37.below hb
     replace O_42 := O_42.below hb
     replace O_47 := O_47.below hb
     replace M := M.below hb; clear hb; try clear u
     refine list_val F (F.wants 90 true rfl (by kernel_rfl) rfl true rfl) rfl rfl (.string (ST.str s)) (ex_move _ rfl _ (F.e rfl)) ?_; clear F a; intro a F
     refine list_val F (F.wants 90 true rfl (by kernel_rfl) rfl true rfl) rfl rfl (.bool false) (ST.ex_neqs _ _ _ _ rfl (Lib.itoa (n10R s).1) s (F.e rfl) (F.e rfl) false (by rw [decide_eq_true (n10_enc hN)]; rfl)) ?_; clear F a; intro a F
     refine list_val F (F.wants 86 false rfl (by kernel_rfl) rfl true rfl) rfl rfl (.bool false) (ex_pick_t _ _ _ rfl (F.e rfl) _ (F.e rfl)) ?_; clear F a; intro a F
     refine list_val F (wn rfl) rfl rfl (.bool false) (ex_pick_f _ _ _ rfl (F.e rfl) _ (F.e rfl)) ?_; clear F a; intro a F
     refine wpList_nil ?_
     replace F : Fr 139 a [(0, .slice (some ad) ls.length c), (2, .bool false), (3, .int .i64 ((al + s.length + 1 : Nat) : Int)), (4, .int .i64 ((i : Nat) : Int)), (5, .string (ST.str s)), (6, .slice A_37 (((rdR sUrl s (decide (s.length % 4 ≠ 1))).1).length) c_37), (7, .int .i64 ((rdR sUrl s (decide (s.length % 4 ≠ 1))).2)), (8, .slice A_42 (((rdR sPlain (trim2 s) (decide (s.length % 4 = 0))).1).length) c_42), (9, .int .i64 ((rdR sPlain (trim2 s) (decide (s.length % 4 = 0))).2)), (10, .slice A_47 (((b16R s).1).length) c_47), (11, .int .i64 ((b16R s).2)), (12, .int .i64 ((n10R s).1)), (13, .int .i64 ((n10R s).2)), (18, .bool true), (30, .bool false), (96, .bool false)] := F.keep ⟨rfl, rfl, rfl, rfl, rfl, rfl, rfl, rfl, rfl, rfl, rfl, rfl, rfl, rfl, rfl, rfl, trivial⟩
     refine then_n ?_
     refine wp_cond_false (F.e rfl) ?_
     refine wp_skip ?_
     refine only_n ?_
     exact ⟨F.keep ⟨rfl, rfl, rfl, rfl, rfl, rfl, rfl, rfl, rfl, rfl, rfl, rfl, rfl, rfl, rfl, trivial⟩, (by refine M.pick' [] _ ?_ (by decide); exact trivial)⟩
    refine wp_region_lit ?_
    refine list_val F (wn rfl) rfl rfl (.int .i64 ((rdR sUrl s (decide (s.length % 4 ≠ 1))).2)) (ex_move _ rfl _ (F.e rfl)) ?_; clear F a; intro a F
    refine list_do (wn rfl) (fun K hK => ?_)
    refine ow_call rfl rfl F 11 #[.int .i64 ((rdR sUrl s (decide (s.length % 4 ≠ 1))).2)] (ex_call 11 _ _ rfl rfl g4_ent_11 _ (map1 (F.e rfl))) (num_any ((rdR sUrl s (decide (s.length % 4 ≠ 1))).2) _) (fun e u hR => ?_)
    obtain ⟨he, hb⟩ := hR
    refine ⟨.int .i64 ((rdR sUrl s (decide (s.length % 4 ≠ 1))).2), he, ?_⟩; clear he F a; intro a F
    refine hK _ _ ?_
    clear hK K
    replace O_37 := O_37.below hb
    replace O_42 := O_42.below hb
    replace O_47 := O_47.below hb
    replace M := M.below hb; clear hb; try clear v
    refine list_val F (wn rfl) rfl rfl (.bool false) (ex_bin .eql _ _ _ _ rfl .i64 _ _ (F.e rfl) rfl _ (b_eql (beq_eq_false_iff_ne.2 hA))) ?_; clear F a; intro a F
    refine list_val F (wn rfl) rfl rfl (.bool false) (ex_move _ rfl _ (F.e rfl)) ?_; clear F a; intro a F
    refine list_skip F (F.wants 58 false rfl (by kernel_rfl) rfl false rfl) rfl rfl ?_; clear F a; intro a F
    refine list_skip F (F.wants 58 false rfl (by kernel_rfl) rfl false rfl) rfl rfl ?_; clear F a; intro a F
    refine list_skip F (F.wants 58 false rfl (by kernel_rfl) rfl false rfl) rfl rfl ?_; clear F a; intro a F
    refine list_skip F (F.wants 58 false rfl (by kernel_rfl) rfl false rfl) rfl rfl ?_; clear F a; intro a F
    refine list_val F (wn rfl) rfl rfl (.bool false) (ex_pick_f _ _ _ rfl (F.e rfl) _ rfl) ?_; clear F a; intro a F
    refine list_val F (wn rfl) rfl rfl (.bool false) (ex_move _ rfl _ (F.e rfl)) ?_; clear F a; intro a F
    refine list_val F (F.wants 64 false rfl (by kernel_rfl) rfl true rfl) rfl rfl (.int .i64 ((rdR sPlain (trim2 s) (decide (s.length % 4 = 0))).2)) (ex_move _ rfl _ (F.e rfl)) ?_; clear F a; intro a F
    refine list_do (F.wants 64 false rfl (by kernel_rfl) rfl true rfl) (fun K hK => ?_)
    refine ow_call rfl rfl F 11 #[.int .i64 ((rdR sPlain (trim2 s) (decide (s.length % 4 = 0))).2)] (ex_call 11 _ _ rfl rfl g4_ent_11 _ (map1 (F.e rfl))) (num_any ((rdR sPlain (trim2 s) (decide (s.length % 4 = 0))).2) _) (fun e v hR => ?_)
    obtain ⟨he, hb⟩ := hR
    refine ⟨.int .i64 ((rdR sPlain (trim2 s) (decide (s.length % 4 = 0))).2), he, ?_⟩; clear he F a; intro a F
    refine hK _ _ ?_
    clear hK K
    replace O_37 := O_37.below hb
    replace O_42 := O_42.below hb
    replace O_47 := O_47.below hb
    replace M := M.below hb; clear hb; try clear u
    refine list_val F (F.wants 64 false rfl (by kernel_rfl) rfl true rfl) rfl rfl (.bool false) (ex_bin .eql _ _ _ _ rfl .i64 _ _ (F.e rfl) rfl _ (b_eql (beq_eq_false_iff_ne.2 hP))) ?_; clear F a; intro a F
    refine list_val F (F.wants 64 false rfl (by kernel_rfl) rfl true rfl) rfl rfl (.bool false) (ex_move _ rfl _ (F.e rfl)) ?_; clear F a; intro a F
    refine list_skip F (F.wants 68 false rfl (by kernel_rfl) rfl false rfl) rfl rfl ?_; clear F a; intro a F
    refine list_skip F (F.wants 68 false rfl (by kernel_rfl) rfl false rfl) rfl rfl ?_; clear F a; intro a F
    refine list_skip F (F.wants 68 false rfl (by kernel_rfl) rfl false rfl) rfl rfl ?_; clear F a; intro a F
    refine list_skip F (F.wants 68 false rfl (by kernel_rfl) rfl false rfl) rfl rfl ?_; clear F a; intro a F
    refine list_val F (F.wants 64 false rfl (by kernel_rfl) rfl true rfl) rfl rfl (.bool false) (ex_pick_f _ _ _ rfl (F.e rfl) _ rfl) ?_; clear F a; intro a F
    refine list_val F (wn rfl) rfl rfl (.bool false) (ex_pick_f _ _ _ rfl (F.e rfl) _ (F.e rfl)) ?_; clear F a; intro a F
    refine list_val F (wn rfl) rfl rfl (.bool false) (ex_move _ rfl _ (F.e rfl)) ?_; clear F a; intro a F
    refine list_val F (F.wants 75 false rfl (by kernel_rfl) rfl true rfl) rfl rfl (.int .i64 ((b16R s).2)) (ex_move _ rfl _ (F.e rfl)) ?_; clear F a; intro a F
    refine list_do (F.wants 75 false rfl (by kernel_rfl) rfl true rfl) (fun K hK => ?_)
    refine ow_call rfl rfl F 11 #[.int .i64 ((b16R s).2)] (ex_call 11 _ _ rfl rfl g4_ent_11 _ (map1 (F.e rfl))) (num_any ((b16R s).2) _) (fun e u hR => ?_)
    obtain ⟨he, hb⟩ := hR
    refine ⟨.int .i64 ((b16R s).2), he, ?_⟩; clear he F a; intro a F
    refine hK _ _ ?_
    clear hK K
    replace O_37 := O_37.below hb
    replace O_42 := O_42.below hb
    replace O_47 := O_47.below hb
    replace M := M.below hb; clear hb; try clear v
    refine list_val F (F.wants 75 false rfl (by kernel_rfl) rfl true rfl) rfl rfl (.bool true) (ex_bin .eql _ _ _ _ rfl .i64 _ _ (F.e rfl) rfl _ (b_eql (by rw [hH]; rfl))) ?_; clear F a; intro a F
    refine list_val F (F.wants 75 false rfl (by kernel_rfl) rfl true rfl) rfl rfl (.bool true) (ex_move _ rfl _ (F.e rfl)) ?_; clear F a; intro a F
    refine list_val F (F.wants 79 true rfl (by kernel_rfl) rfl true rfl) rfl rfl (.slice A_47 (((b16R s).1).length) c_47) (ex_move _ rfl _ (F.e rfl)) ?_; clear F a; intro a F
    refine list_do (F.wants 79 true rfl (by kernel_rfl) rfl true rfl) (fun K hK => ?_)
    refine ow_call rfl rfl F 6 #[.slice A_47 (((b16R s).1).length) c_47] (ex_call 6 _ _ rfl rfl g4_ent_6 _ (map1 (F.e rfl))) (text16_any ((b16R s).1) _ _ _ O_47.rd.1 O_47.rd.2.2 (by omega)) (fun e v hR => ?_)
    obtain ⟨he, hb⟩ := hR
    refine ⟨.string (ST.str (hex16 ((b16R s).1))), he, ?_⟩; clear he F a; intro a F
    refine hK _ _ ?_
    clear hK K
    replace O_37 := O_37.below hb
    replace O_42 := O_42.below hb
    replace O_47 := O_47.below hb
    replace M := M.below hb; clear hb; try clear u
    refine list_val F (F.wants 79 true rfl (by kernel_rfl) rfl true rfl) rfl rfl (.string (ST.str s)) (ex_move _ rfl _ (F.e rfl)) ?_; clear F a; intro a F
    refine list_val F (F.wants 79 true rfl (by kernel_rfl) rfl true rfl) rfl rfl (.bool false) (ST.ex_neqs _ _ _ _ rfl (hex16 ((b16R s).1)) s (F.e rfl) (F.e rfl) false (by rw [decide_eq_true (b16_enc hH)]; rfl)) ?_; clear F a; intro a F
    refine list_val F (F.wants 75 false rfl (by kernel_rfl) rfl true rfl) rfl rfl (.bool false) (ex_pick_t _ _ _ rfl (F.e rfl) _ (F.e rfl)) ?_; clear F a; intro a F
    refine list_val F (wn rfl) rfl rfl (.bool false) (ex_pick_f _ _ _ rfl (F.e rfl) _ (F.e rfl)) ?_; clear F a; intro a F
    refine list_val F (wn rfl) rfl rfl (.bool false) (ex_move _ rfl _ (F.e rfl)) ?_; clear F a; intro a F
    refine list_val F (F.wants 86 false rfl (by kernel_rfl) rfl true rfl) rfl rfl (.int .i64 ((n10R s).2)) (ex_move _ rfl _ (F.e rfl)) ?_; clear F a; intro a F
    refine list_do (F.wants 86 false rfl (by kernel_rfl) rfl true rfl) (fun K hK => ?_)
    refine ow_call rfl rfl F 11 #[.int .i64 ((n10R s).2)] (ex_call 11 _ _ rfl rfl g4_ent_11 _ (map1 (F.e rfl))) (num_any ((n10R s).2) _) (fun e u hR => ?_)
    obtain ⟨he, hb⟩ := hR
    refine ⟨.int .i64 ((n10R s).2), he, ?_⟩; clear he F a; intro a F
    refine hK _ _ ?_
    clear hK K
    replace O_37 := O_37.below hb
    replace O_42 := O_42.below hb
    replace O_47 := O_47.below hb
    replace M := M.below hb; clear hb; try clear v
    refine list_val F (F.wants 86 false rfl (by kernel_rfl) rfl true rfl) rfl rfl (.bool false) (ex_bin .eql _ _ _ _ rfl .i64 _ _ (F.e rfl) rfl _ (b_eql (beq_eq_false_iff_ne.2 hN))) ?_; clear F a; intro a F
    refine list_val F (F.wants 86 false rfl (by kernel_rfl) rfl true rfl) rfl rfl (.bool false) (ex_move _ rfl _ (F.e rfl)) ?_; clear F a; intro a F
    refine list_skip F (F.wants 90 false rfl (by kernel_rfl) rfl false rfl) rfl rfl ?_; clear F a; intro a F
    refine list_skip F (F.wants 90 false rfl (by kernel_rfl) rfl false rfl) rfl rfl ?_; clear F a; intro a F
    refine list_skip F (F.wants 90 false rfl (by kernel_rfl) rfl false rfl) rfl rfl ?_; clear F a; intro a F
    refine list_skip F (F.wants 90 false rfl (by kernel_rfl) rfl false rfl) rfl rfl ?_; clear F a; intro a F
    refine list_val F (F.wants 86 false rfl (by kernel_rfl) rfl true rfl) rfl rfl (.bool false) (ex_pick_f _ _ _ rfl (F.e rfl) _ rfl) ?_; clear F a; intro a F
    refine list_val F (wn rfl) rfl rfl (.bool false) (ex_pick_f _ _ _ rfl (F.e rfl) _ (F.e rfl)) ?_; clear F a; intro a F
    refine wpList_nil ?_
    replace F : Fr 139 a [(0, .slice (some ad) ls.length c), (2, .bool false), (3, .int .i64 ((al + s.length + 1 : Nat) : Int)), (4, .int .i64 ((i : Nat) : Int)), (5, .string (ST.str s)), (6, .slice A_37 (((rdR sUrl s (decide (s.length % 4 ≠ 1))).1).length) c_37), (7, .int .i64 ((rdR sUrl s (decide (s.length % 4 ≠ 1))).2)), (8, .slice A_42 (((rdR sPlain (trim2 s) (decide (s.length % 4 = 0))).1).length) c_42), (9, .int .i64 ((rdR sPlain (trim2 s) (decide (s.length % 4 = 0))).2)), (10, .slice A_47 (((b16R s).1).length) c_47), (11, .int .i64 ((b16R s).2)), (12, .int .i64 ((n10R s).1)), (13, .int .i64 ((n10R s).2)), (18, .bool true), (30, .bool false), (96, .bool false)] := F.keep ⟨rfl, rfl, rfl, rfl, rfl, rfl, rfl, rfl, rfl, rfl, rfl, rfl, rfl, rfl, rfl, rfl, trivial⟩
    refine then_n ?_
    refine wp_cond_false (F.e rfl) ?_
    refine wp_skip ?_
    refine only_n ?_
    exact ⟨F.keep ⟨rfl, rfl, rfl, rfl, rfl, rfl, rfl, rfl, rfl, rfl, rfl, rfl, rfl, rfl, rfl, trivial⟩, (by refine M.pick' [] _ ?_ (by decide); exact trivial)⟩
   by_cases hN : (n10R s).2 = 0
   ·
    refine wp_region_lit ?_
    refine list_val F (wn rfl) rfl rfl (.int .i64 ((rdR sUrl s (decide (s.length % 4 ≠ 1))).2)) (ex_move _ rfl _ (F.e rfl)) ?_; clear F a; intro a F
    refine list_do (wn rfl) (fun K hK => ?_)
    refine ow_call rfl rfl F 11 #[.int .i64 ((rdR sUrl s (decide (s.length % 4 ≠ 1))).2)] (ex_call 11 _ _ rfl rfl g4_ent_11 _ (map1 (F.e rfl))) (num_any ((rdR sUrl s (decide (s.length % 4 ≠ 1))).2) _) (fun e u hR => ?_)
    obtain ⟨he, hb⟩ := hR
    refine ⟨.int .i64 ((rdR sUrl s (decide (s.length % 4 ≠ 1))).2), he, ?_⟩; clear he F a; intro a F
    refine hK _ _ ?_
    clear hK K
    replace O_37 := O_37.below hb
    replace O_42 := O_42.below hb
    replace O_47 := O_47.below hb
    replace M := M.below hb; clear hb; try clear v
    refine list_val F (wn rfl) rfl rfl (.bool false) (ex_bin .eql _ _ _ _ rfl .i64 _ _ (F.e rfl) rfl _ (b_eql (beq_eq_false_iff_ne.2 hA))) ?_; clear F a; intro a F
    refine list_val F (wn rfl) rfl rfl (.bool false) (ex_move _ rfl _ (F.e rfl)) ?_; clear F a; intro a F
    refine list_skip F (F.wants 58 false rfl (by kernel_rfl) rfl false rfl) rfl rfl ?_; clear F a; intro a F
    refine list_skip F (F.wants 58 false rfl (by kernel_rfl) rfl false rfl) rfl rfl ?_; clear F a; intro a F
    refine list_skip F (F.wants 58 false rfl (by kernel_rfl) rfl false rfl) rfl rfl ?_; clear F a; intro a F
    refine list_skip F (F.wants 58 false rfl (by kernel_rfl) rfl false rfl) rfl rfl ?_; clear F a; intro a F
    refine list_val F (wn rfl) rfl rfl (.bool false) (ex_pick_f _ _ _ rfl (F.e rfl) _ rfl) ?_; clear F a; intro a F
    refine list_val F (wn rfl) rfl rfl (.bool false) (ex_move _ rfl _ (F.e rfl)) ?_; clear F a; intro a F
    refine list_val F (F.wants 64 false rfl (by kernel_rfl) rfl true rfl) rfl rfl (.int .i64 ((rdR sPlain (trim2 s) (decide (s.length % 4 = 0))).2)) (ex_move _ rfl _ (F.e rfl)) ?_; clear F a; intro a F
    refine list_do (F.wants 64 false rfl (by kernel_rfl) rfl true rfl) (fun K hK => ?_)
    refine ow_call rfl rfl F 11 #[.int .i64 ((rdR sPlain (trim2 s) (decide (s.length % 4 = 0))).2)] (ex_call 11 _ _ rfl rfl g4_ent_11 _ (map1 (F.e rfl))) (num_any ((rdR sPlain (trim2 s) (decide (s.length % 4 = 0))).2) _) (fun e v hR => ?_)
    obtain ⟨he, hb⟩ := hR
    refine ⟨.int .i64 ((rdR sPlain (trim2 s) (decide (s.length % 4 = 0))).2), he, ?_⟩; clear he F a; intro a F
    refine hK _ _ ?_
    clear hK K
    replace O_37 := O_37.below hb
    replace O_42 := O_42.below hb
    replace O_47 := O_47.below hb
    replace M := M.below hb; clear hb; try clear u
    refine list_val F (F.wants 64 false rfl (by kernel_rfl) rfl true rfl) rfl rfl (.bool false) (ex_bin .eql _ _ _ _ rfl .i64 _ _ (F.e rfl) rfl _ (b_eql (beq_eq_false_iff_ne.2 hP))) ?_; clear F a; intro a F
    refine list_val F (F.wants 64 false rfl (by kernel_rfl) rfl true rfl) rfl rfl (.bool false) (ex_move _ rfl _ (F.e rfl)) ?_; clear F a; intro a F
    refine list_skip F (F.wants 68 false rfl (by kernel_rfl) rfl false rfl) rfl rfl ?_; clear F a; intro a F
    refine list_skip F (F.wants 68 false rfl (by kernel_rfl) rfl false rfl) rfl rfl ?_; clear F a; intro a F
    refine list_skip F (F.wants 68 false rfl (by kernel_rfl) rfl false rfl) rfl rfl ?_; clear F a; intro a F
    refine list_skip F (F.wants 68 false rfl (by kernel_rfl) rfl false rfl) rfl rfl ?_; clear F a; intro a F
    refine list_val F (F.wants 64 false rfl (by kernel_rfl) rfl true rfl) rfl rfl (.bool false) (ex_pick_f _ _ _ rfl (F.e rfl) _ rfl) ?_; clear F a; intro a F
    refine list_val F (wn rfl) rfl rfl (.bool false) (ex_pick_f _ _ _ rfl (F.e rfl) _ (F.e rfl)) ?_; clear F a; intro a F
    refine list_val F (wn rfl) rfl rfl (.bool false) (ex_move _ rfl _ (F.e rfl)) ?_; clear F a; intro a F
    refine list_val F (F.wants 75 false rfl (by kernel_rfl) rfl true rfl) rfl rfl (.int .i64 ((b16R s).2)) (ex_move _ rfl _ (F.e rfl)) ?_; clear F a; intro a F
    refine list_do (F.wants 75 false rfl (by kernel_rfl) rfl true rfl) (fun K hK => ?_)
    refine ow_call rfl rfl F 11 #[.int .i64 ((b16R s).2)] (ex_call 11 _ _ rfl rfl g4_ent_11 _ (map1 (F.e rfl))) (num_any ((b16R s).2) _) (fun e u hR => ?_)
    obtain ⟨he, hb⟩ := hR
    refine ⟨.int .i64 ((b16R s).2), he, ?_⟩; clear he F a; intro a F
    refine hK _ _ ?_
    clear hK K
    replace O_37 := O_37.below hb
    replace O_42 := O_42.below hb
    replace O_47 := O_47.below hb
    replace M := M.below hb; clear hb; try clear v
    refine list_val F (F.wants 75 false rfl (by kernel_rfl) rfl true rfl) rfl rfl (.bool false) (ex_bin .eql _ _ _ _ rfl .i64 _ _ (F.e rfl) rfl _ (b_eql (beq_eq_false_iff_ne.2 hH))) ?_; clear F a; intro a F
    refine list_val F (F.wants 75 false rfl (by kernel_rfl) rfl true rfl) rfl rfl (.bool false) (ex_move _ rfl _ (F.e rfl)) ?_; clear F a; intro a F
    refine list_skip F (F.wants 79 false rfl (by kernel_rfl) rfl false rfl) rfl rfl ?_; clear F a; intro a F
    refine list_skip F (F.wants 79 false rfl (by kernel_rfl) rfl false rfl) rfl rfl ?_; clear F a; intro a F
    refine list_skip F (F.wants 79 false rfl (by kernel_rfl) rfl false rfl) rfl rfl ?_; clear F a; intro a F
    refine list_skip F (F.wants 79 false rfl (by kernel_rfl) rfl false rfl) rfl rfl ?_; clear F a; intro a F
    refine list_val F (F.wants 75 false rfl (by kernel_rfl) rfl true rfl) rfl rfl (.bool false) (ex_pick_f _ _ _ rfl (F.e rfl) _ rfl) ?_; clear F a; intro a F
    refine list_val F (wn rfl) rfl rfl (.bool false) (ex_pick_f _ _ _ rfl (F.e rfl) _ (F.e rfl)) ?_; clear F a; intro a F
    refine list_val F (wn rfl) rfl rfl (.bool false) (ex_move _ rfl _ (F.e rfl)) ?_; clear F a; intro a F
    refine list_val F (F.wants 86 false rfl (by kernel_rfl) rfl true rfl) rfl rfl (.int .i64 ((n10R s).2)) (ex_move _ rfl _ (F.e rfl)) ?_; clear F a; intro a F
    refine list_do (F.wants 86 false rfl (by kernel_rfl) rfl true rfl) (fun K hK => ?_)
    refine ow_call rfl rfl F 11 #[.int .i64 ((n10R s).2)] (ex_call 11 _ _ rfl rfl g4_ent_11 _ (map1 (F.e rfl))) (num_any ((n10R s).2) _) (fun e v hR => ?_)
    obtain ⟨he, hb⟩ := hR
    refine ⟨.int .i64 ((n10R s).2), he, ?_⟩; clear he F a; intro a F
    refine hK _ _ ?_
    clear hK K
    replace O_37 := O_37.below hb
    replace O_42 := O_42.below hb
    replace O_47 := O_47.below hb
    replace M := M.below hb; clear hb; try clear u
    refine list_val F (F.wants 86 false rfl (by kernel_rfl) rfl true rfl) rfl rfl (.bool true) (ex_bin .eql _ _ _ _ rfl .i64 _ _ (F.e rfl) rfl _ (b_eql (by rw [hN]; rfl))) ?_; clear F a; intro a F
    refine list_val F (F.wants 86 false rfl (by kernel_rfl) rfl true rfl) rfl rfl (.bool true) (ex_move _ rfl _ (F.e rfl)) ?_; clear F a; intro a F
    refine list_val F (F.wants 90 true rfl (by kernel_rfl) rfl true rfl) rfl rfl (.int .i64 ((n10R s).1)) (ex_move _ rfl _ (F.e rfl)) ?_; clear F a; intro a F
    refine list_do (F.wants 90 true rfl (by kernel_rfl) rfl true rfl) (fun K hK => ?_)
    refine ow_call rfl rfl F 18 #[.int .i64 ((n10R s).1)] (ex_call 18 _ _ rfl rfl g4_ent_18 _ (map1 (F.e rfl))) (text10_any (n10R s).1 hbd.1 hbd.2 _ (hE.below M.bel)) (fun e u hR => ?_)
    obtain ⟨he, hb⟩ := hR
    refine ⟨.string (ST.str (Lib.itoa (n10R s).1)), he, ?_⟩; clear he F a; intro a F
    refine hK _ _ ?_
    clear hK K
    replace O_37 := O_37.below hb
    replace O_42 := O_42.below hb
    replace O_47 := O_47.below hb
    replace M := M.below hb; clear hb; try clear v
    refine list_val F (F.wants 90 true rfl (by kernel_rfl) rfl true rfl) rfl rfl (.string (ST.str s)) (ex_move _ rfl _ (F.e rfl)) ?_; clear F a; intro a F
    refine list_val F (F.wants 90 true rfl (by kernel_rfl) rfl true rfl) rfl rfl (.bool false) (ST.ex_neqs _ _ _ _ rfl (Lib.itoa (n10R s).1) s (F.e rfl) (F.e rfl) false (by rw [decide_eq_true (n10_enc hN)]; rfl)) ?_; clear F a; intro a F
    refine list_val F (F.wants 86 false rfl (by kernel_rfl) rfl true rfl) rfl rfl (.bool false) (ex_pick_t _ _ _ rfl (F.e rfl) _ (F.e rfl)) ?_; clear F a; intro a F
    refine list_val F (wn rfl) rfl rfl (.bool false) (ex_pick_f _ _ _ rfl (F.e rfl) _ (F.e rfl)) ?_; clear F a; intro a F
    refine wpList_nil ?_
    replace F : Fr 139 a [(0, .slice (some ad) ls.length c), (2, .bool false), (3, .int .i64 ((al + s.length + 1 : Nat) : Int)), (4, .int .i64 ((i : Nat) : Int)), (5, .string (ST.str s)), (6, .slice A_37 (((rdR sUrl s (decide (s.length % 4 ≠ 1))).1).length) c_37), (7, .int .i64 ((rdR sUrl s (decide (s.length % 4 ≠ 1))).2)), (8, .slice A_42 (((rdR sPlain (trim2 s) (decide (s.length % 4 = 0))).1).length) c_42), (9, .int .i64 ((rdR sPlain (trim2 s) (decide (s.length % 4 = 0))).2)), (10, .slice A_47 (((b16R s).1).length) c_47), (11, .int .i64 ((b16R s).2)), (12, .int .i64 ((n10R s).1)), (13, .int .i64 ((n10R s).2)), (18, .bool true), (30, .bool false), (96, .bool false)] := F.keep ⟨rfl, rfl, rfl, rfl, rfl, rfl, rfl, rfl, rfl, rfl, rfl, rfl, rfl, rfl, rfl, rfl, trivial⟩
    refine then_n ?_
    refine wp_cond_false (F.e rfl) ?_
    refine wp_skip ?_
    refine only_n ?_
    exact ⟨F.keep ⟨rfl, rfl, rfl, rfl, rfl, rfl, rfl, rfl, rfl, rfl, rfl, rfl, rfl, rfl, rfl, trivial⟩, (by refine M.pick' [] _ ?_ (by decide); exact trivial)⟩
   refine wp_region_lit ?_
   refine list_val F (wn rfl) rfl rfl (.int .i64 ((rdR sUrl s (decide (s.length % 4 ≠ 1))).2)) (ex_move _ rfl _ (F.e rfl)) ?_; clear F a; intro a F
   refine list_do (wn rfl) (fun K hK => ?_)
   refine ow_call rfl rfl F 11 #[.int .i64 ((rdR sUrl s (decide (s.length % 4 ≠ 1))).2)] (ex_call 11 _ _ rfl rfl g4_ent_11 _ (map1 (F.e rfl))) (num_any ((rdR sUrl s (decide (s.length % 4 ≠ 1))).2) _) (fun e u hR => ?_)
   obtain ⟨he, hb⟩ := hR
   refine ⟨.int .i64 ((rdR sUrl s (decide (s.length % 4 ≠ 1))).2), he, ?_⟩; clear he F a; intro a F
   refine hK _ _ ?_
   clear hK K
   replace O_37 := O_37.below hb
   replace O_42 := O_42.below hb
   replace O_47 := O_47.below hb
   replace M := M.below hb; clear hb; try clear v
   refine list_val F (wn rfl) rfl rfl (.bool false) (ex_bin .eql _ _ _ _ rfl .i64 _ _ (F.e rfl) rfl _ (b_eql (beq_eq_false_iff_ne.2 hA))) ?_; clear F a; intro a F
   refine list_val F (wn rfl) rfl rfl (.bool false) (ex_move _ rfl _ (F.e rfl)) ?_; clear F a; intro a F
   refine list_skip F (F.wants 58 false rfl (by kernel_rfl) rfl false rfl) rfl rfl ?_; clear F a; intro a F
   refine list_skip F (F.wants 58 false rfl (by kernel_rfl) rfl false rfl) rfl rfl ?_; clear F a; intro a F
   refine list_skip F (F.wants 58 false rfl (by kernel_rfl) rfl false rfl) rfl rfl ?_; clear F a; intro a F
   refine list_skip F (F.wants 58 false rfl (by kernel_rfl) rfl false rfl) rfl rfl ?_; clear F a; intro a F
   refine list_val F (wn rfl) rfl rfl (.bool false) (ex_pick_f _ _ _ rfl (F.e rfl) _ rfl) ?_; clear F a; intro a F
   refine list_val F (wn rfl) rfl rfl (.bool false) (ex_move _ rfl _ (F.e rfl)) ?_; clear F a; intro a F
   refine list_val F (F.wants 64 false rfl (by kernel_rfl) rfl true rfl) rfl rfl (.int .i64 ((rdR sPlain (trim2 s) (decide (s.length % 4 = 0))).2)) (ex_move _ rfl _ (F.e rfl)) ?_; clear F a; intro a F
   refine list_do (F.wants 64 false rfl (by kernel_rfl) rfl true rfl) (fun K hK => ?_)
   refine ow_call rfl rfl F 11 #[.int .i64 ((rdR sPlain (trim2 s) (decide (s.length % 4 = 0))).2)] (ex_call 11 _ _ rfl rfl g4_ent_11 _ (map1 (F.e rfl))) (num_any ((rdR sPlain (trim2 s) (decide (s.length % 4 = 0))).2) _) (fun e v hR => ?_)
   obtain ⟨he, hb⟩ := hR
   refine ⟨.int .i64 ((rdR sPlain (trim2 s) (decide (s.length % 4 = 0))).2), he, ?_⟩; clear he F a; intro a F
   refine hK _ _ ?_
   clear hK K
   replace O_37 := O_37.below hb
   replace O_42 := O_42.below hb
   replace O_47 := O_47.below hb
   replace M := M.below hb; clear hb; try clear u
   refine list_val F (F.wants 64 false rfl (by kernel_rfl) rfl true rfl) rfl rfl (.bool false) (ex_bin .eql _ _ _ _ rfl .i64 _ _ (F.e rfl) rfl _ (b_eql (beq_eq_false_iff_ne.2 hP))) ?_; clear F a; intro a F
   refine list_val F (F.wants 64 false rfl (by kernel_rfl) rfl true rfl) rfl rfl (.bool false) (ex_move _ rfl _ (F.e rfl)) ?_; clear F a; intro a F
   refine list_skip F (F.wants 68 false rfl (by kernel_rfl) rfl false rfl) rfl rfl ?_; clear F a; intro a F
   refine list_skip F (F.wants 68 false rfl (by kernel_rfl) rfl false rfl) rfl rfl ?_; clear F a; intro a F
   refine list_skip F (F.wants 68 false rfl (by kernel_rfl) rfl false rfl) rfl rfl ?_; clear F a; intro a F
   refine list_skip F (F.wants 68 false rfl (by kernel_rfl) rfl false rfl) rfl rfl ?_; clear F a; intro a F
   refine list_val F (F.wants 64 false rfl (by kernel_rfl) rfl true rfl) rfl rfl (.bool false) (ex_pick_f _ _ _ rfl (F.e rfl) _ rfl) ?_; clear F a; intro a F
   refine list_val F (wn rfl) rfl rfl (.bool false) (ex_pick_f _ _ _ rfl (F.e rfl) _ (F.e rfl)) ?_; clear F a; intro a F
   refine list_val F (wn rfl) rfl rfl (.bool false) (ex_move _ rfl _ (F.e rfl)) ?_; clear F a; intro a F
   refine list_val F (F.wants 75 false rfl (by kernel_rfl) rfl true rfl) rfl rfl (.int .i64 ((b16R s).2)) (ex_move _ rfl _ (F.e rfl)) ?_; clear F a; intro a F
   refine list_do (F.wants 75 false rfl (by kernel_rfl) rfl true rfl) (fun K hK => ?_)
   refine ow_call rfl rfl F 11 #[.int .i64 ((b16R s).2)] (ex_call 11 _ _ rfl rfl g4_ent_11 _ (map1 (F.e rfl))) (num_any ((b16R s).2) _) (fun e u hR => ?_)
   obtain ⟨he, hb⟩ := hR
   refine ⟨.int .i64 ((b16R s).2), he, ?_⟩; clear he F a; intro a F
   refine hK _ _ ?_
   clear hK K
   replace O_37 := O_37.below hb
   replace O_42 := O_42.below hb
   replace O_47 := O_47.below hb
   replace M := M.below hb; clear hb; try clear v
   refine list_val F (F.wants 75 false rfl (by kernel_rfl) rfl true rfl) rfl rfl (.bool false) (ex_bin .eql _ _ _ _ rfl .i64 _ _ (F.e rfl) rfl _ (b_eql (beq_eq_false_iff_ne.2 hH))) ?_; clear F a; intro a F
   refine list_val F (F.wants 75 false rfl (by kernel_rfl) rfl true rfl) rfl rfl (.bool false) (ex_move _ rfl _ (F.e rfl)) ?_; clear F a; intro a F
   refine list_skip F (F.wants 79 false rfl (by kernel_rfl) rfl false rfl) rfl rfl ?_; clear F a; intro a F
   refine list_skip F (F.wants 79 false rfl (by kernel_rfl) rfl false rfl) rfl rfl ?_; clear F a; intro a F
   refine list_skip F (F.wants 79 false rfl (by kernel_rfl) rfl false rfl) rfl rfl ?_; clear F a; intro a F
   refine list_skip F (F.wants 79 false rfl (by kernel_rfl) rfl false rfl) rfl rfl ?_; clear F a; intro a F
   refine list_val F (F.wants 75 false rfl (by kernel_rfl) rfl true rfl) rfl rfl (.bool false) (ex_pick_f _ _ _ rfl (F.e rfl) _ rfl) ?_; clear F a; intro a F
   refine list_val F (wn rfl) rfl rfl (.bool false) (ex_pick_f _ _ _ rfl (F.e rfl) _ (F.e rfl)) ?_; clear F a; intro a F
   refine list_val F (wn rfl) rfl rfl (.bool false) (ex_move _ rfl _ (F.e rfl)) ?_; clear F a; intro a F
   refine list_val F (F.wants 86 false rfl (by kernel_rfl) rfl true rfl) rfl rfl (.int .i64 ((n10R s).2)) (ex_move _ rfl _ (F.e rfl)) ?_; clear F a; intro a F
   refine list_do (F.wants 86 false rfl (by kernel_rfl) rfl true rfl) (fun K hK => ?_)
   refine ow_call rfl rfl F 11 #[.int .i64 ((n10R s).2)] (ex_call 11 _ _ rfl rfl g4_ent_11 _ (map1 (F.e rfl))) (num_any ((n10R s).2) _) (fun e v hR => ?_)
   obtain ⟨he, hb⟩ := hR
   refine ⟨.int .i64 ((n10R s).2), he, ?_⟩; clear he F a; intro a F
   refine hK _ _ ?_
   clear hK K
   replace O_37 := O_37.below hb
   replace O_42 := O_42.below hb
   replace O_47 := O_47.below hb
   replace M := M.below hb; clear hb; try clear u
   refine list_val F (F.wants 86 false rfl (by kernel_rfl) rfl true rfl) rfl rfl (.bool false) (ex_bin .eql _ _ _ _ rfl .i64 _ _ (F.e rfl) rfl _ (b_eql (beq_eq_false_iff_ne.2 hN))) ?_; clear F a; intro a F
   refine list_val F (F.wants 86 false rfl (by kernel_rfl) rfl true rfl) rfl rfl (.bool false) (ex_move _ rfl _ (F.e rfl)) ?_; clear F a; intro a F
   refine list_skip F (F.wants 90 false rfl (by kernel_rfl) rfl false rfl) rfl rfl ?_; clear F a; intro a F
   refine list_skip F (F.wants 90 false rfl (by kernel_rfl) rfl false rfl) rfl rfl ?_; clear F a; intro a F
   refine list_skip F (F.wants 90 false rfl (by kernel_rfl) rfl false rfl) rfl rfl ?_; clear F a; intro a F
   refine list_skip F (F.wants 90 false rfl (by kernel_rfl) rfl false rfl) rfl rfl ?_; clear F a; intro a F
   refine list_val F (F.wants 86 false rfl (by kernel_rfl) rfl true rfl) rfl rfl (.bool false) (ex_pick_f _ _ _ rfl (F.e rfl) _ rfl) ?_; clear F a; intro a F
   refine list_val F (wn rfl) rfl rfl (.bool false) (ex_pick_f _ _ _ rfl (F.e rfl) _ (F.e rfl)) ?_; clear F a; intro a F
   refine wpList_nil ?_
   replace F : Fr 139 a [(0, .slice (some ad) ls.length c), (2, .bool false), (3, .int .i64 ((al + s.length + 1 : Nat) : Int)), (4, .int .i64 ((i : Nat) : Int)), (5, .string (ST.str s)), (6, .slice A_37 (((rdR sUrl s (decide (s.length % 4 ≠ 1))).1).length) c_37), (7, .int .i64 ((rdR sUrl s (decide (s.length % 4 ≠ 1))).2)), (8, .slice A_42 (((rdR sPlain (trim2 s) (decide (s.length % 4 = 0))).1).length) c_42), (9, .int .i64 ((rdR sPlain (trim2 s) (decide (s.length % 4 = 0))).2)), (10, .slice A_47 (((b16R s).1).length) c_47), (11, .int .i64 ((b16R s).2)), (12, .int .i64 ((n10R s).1)), (13, .int .i64 ((n10R s).2)), (18, .bool true), (30, .bool false), (96, .bool false)] := F.keep ⟨rfl, rfl, rfl, rfl, rfl, rfl, rfl, rfl, rfl, rfl, rfl, rfl, rfl, rfl, rfl, rfl, trivial⟩
   refine then_n ?_
   refine wp_cond_false (F.e rfl) ?_
   refine wp_skip ?_
   refine only_n ?_
   exact ⟨F.keep ⟨rfl, rfl, rfl, rfl, rfl, rfl, rfl, rfl, rfl, rfl, rfl, rfl, rfl, rfl, rfl, trivial⟩, (by refine M.pick' [] _ ?_ (by decide); exact trivial)⟩
  clear F M a O_37 O_42 O_47
  intro a u hR; obtain ⟨F, M⟩ := hR; try clear v
  refine then_n ?_
  refine wp_seq ?_
  refine wp_region_lit ?_
  refine list_val F (wn rfl) rfl rfl (.string (ST.str s)) (ex_move _ rfl _ (F.e rfl)) ?_; clear F a; intro a F
  refine list_val F (wn rfl) rfl rfl (.string (ST.str (s ++ ([10])))) (ST.ex_adds _ _ _ _ rfl s ([10]) (F.e rfl) rfl (by simp only [List.length_cons, List.length_nil]; omega) (s ++ ([10])) rfl) ?_; clear F a; intro a F
  refine list_val F (wn rfl) rfl rfl (.string (ST.str (s ++ ([10])))) (ex_assign _ rfl _ (F.e rfl)) ?_; clear F a; intro a F
  refine wpList_nil ?_
  replace F : Fr 139 a [(0, .slice (some ad) ls.length c), (2, .bool false), (3, .int .i64 ((al + s.length + 1 : Nat) : Int)), (4, .int .i64 ((i : Nat) : Int)), (5, .string (ST.str s)), (6, .slice A_37 (((rdR sUrl s (decide (s.length % 4 ≠ 1))).1).length) c_37), (7, .int .i64 ((rdR sUrl s (decide (s.length % 4 ≠ 1))).2)), (8, .slice A_42 (((rdR sPlain (trim2 s) (decide (s.length % 4 = 0))).1).length) c_42), (9, .int .i64 ((rdR sPlain (trim2 s) (decide (s.length % 4 = 0))).2)), (10, .slice A_47 (((b16R s).1).length) c_47), (11, .int .i64 ((b16R s).2)), (12, .int .i64 ((n10R s).1)), (13, .int .i64 ((n10R s).2)), (14, .string (ST.str (s ++ ([10])))), (18, .bool true), (30, .bool false)] := F.keep ⟨rfl, rfl, rfl, rfl, rfl, rfl, rfl, rfl, rfl, rfl, rfl, rfl, rfl, rfl, rfl, rfl, trivial⟩
  refine then_n ?_
  refine wp_seq ?_
  refine wp_region_lit ?_
  refine list_val F (wn rfl) rfl rfl (.string (ST.str (s ++ ([10])))) (ex_move _ rfl _ (F.e rfl)) ?_; clear F a; intro a F
  refine list_do (wn rfl) (fun K hK => ?_)
  refine ow_call rfl rfl F 14 #[.string (ST.str (s ++ ([10])))] (ex_call 14 _ _ rfl rfl g4_ent_14 _ (map1 (F.e rfl))) (bytes64_any (s ++ [10]) _ (by simp; omega)) (fun e v hR => ?_)
  obtain ⟨A_101, c_101, he, O_101, hb⟩ := hR
  replace O_101 := O_101.low M.bel.size
  rw [bad64] at he; clear O_101
  refine ⟨.tuple #[.slice A_101 (([] : List UInt8).length) c_101, .int .i64 10], he, ?_⟩; clear he F a; intro a F
  refine hK _ _ ?_
  clear hK K
  replace M := M.below hb; clear hb; try clear u
  refine list_val F (wn rfl) rfl rfl (.tuple #[.slice A_101 (([] : List UInt8).length) c_101, .int .i64 10]) (ex_move _ rfl _ (F.e rfl)) ?_; clear F a; intro a F
  refine list_val F (wn rfl) rfl rfl (.slice A_101 (([] : List UInt8).length) c_101) (ex_extract _ _ rfl _ (F.e rfl) _ rfl) ?_; clear F a; intro a F
  refine list_val F (wn rfl) rfl rfl (.int .i64 10) (ex_extract _ _ rfl _ (F.e rfl) _ rfl) ?_; clear F a; intro a F
  refine list_val F (wn rfl) rfl rfl (.int .i64 10) (ex_assign _ rfl _ (F.e rfl)) ?_; clear F a; intro a F
  refine wpList_nil ?_
  replace F : Fr 139 a [(0, .slice (some ad) ls.length c), (2, .bool false), (3, .int .i64 ((al + s.length + 1 : Nat) : Int)), (4, .int .i64 ((i : Nat) : Int)), (5, .string (ST.str s)), (6, .slice A_37 (((rdR sUrl s (decide (s.length % 4 ≠ 1))).1).length) c_37), (7, .int .i64 10), (8, .slice A_42 (((rdR sPlain (trim2 s) (decide (s.length % 4 = 0))).1).length) c_42), (9, .int .i64 ((rdR sPlain (trim2 s) (decide (s.length % 4 = 0))).2)), (10, .slice A_47 (((b16R s).1).length) c_47), (11, .int .i64 ((b16R s).2)), (12, .int .i64 ((n10R s).1)), (13, .int .i64 ((n10R s).2)), (14, .string (ST.str (s ++ ([10])))), (18, .bool true), (30, .bool false)] := F.keep ⟨rfl, rfl, rfl, rfl, rfl, rfl, rfl, rfl, rfl, rfl, rfl, rfl, rfl, rfl, rfl, rfl, trivial⟩
  refine then_n ?_
  refine wp_seq ?_
  refine wp_region_lit ?_
  refine list_val F (wn rfl) rfl rfl (.string (ST.str s)) (ex_move _ rfl _ (F.e rfl)) ?_; clear F a; intro a F
  refine list_val F (wn rfl) rfl rfl (.string (ST.str (([32]) ++ s))) (ST.ex_adds _ _ _ _ rfl ([32]) s rfl (F.e rfl) (by simp only [List.length_cons, List.length_nil]; omega) (([32]) ++ s) rfl) ?_; clear F a; intro a F
  refine list_do (wn rfl) (fun K hK => ?_)
  refine ow_call rfl rfl F 15 #[.string (ST.str (([32]) ++ s))] (ex_call 15 _ _ rfl rfl g4_ent_15 _ (map1 (F.e rfl))) (bytesPad_any ([32] ++ s) _ (by simp; omega)) (fun e u hR => ?_)
  obtain ⟨A_107, c_107, he, O_107, hb⟩ := hR
  replace O_107 := O_107.low M.bel.size
  rw [badPad] at he; clear O_107
  refine ⟨.tuple #[.slice A_107 (([] : List UInt8).length) c_107, .int .i64 10], he, ?_⟩; clear he F a; intro a F
  refine hK _ _ ?_
  clear hK K
  replace M := M.below hb; clear hb; try clear v
  refine list_val F (wn rfl) rfl rfl (.tuple #[.slice A_107 (([] : List UInt8).length) c_107, .int .i64 10]) (ex_move _ rfl _ (F.e rfl)) ?_; clear F a; intro a F
  refine list_val F (wn rfl) rfl rfl (.slice A_107 (([] : List UInt8).length) c_107) (ex_extract _ _ rfl _ (F.e rfl) _ rfl) ?_; clear F a; intro a F
  refine list_val F (wn rfl) rfl rfl (.int .i64 10) (ex_extract _ _ rfl _ (F.e rfl) _ rfl) ?_; clear F a; intro a F
  refine list_val F (wn rfl) rfl rfl (.int .i64 10) (ex_assign _ rfl _ (F.e rfl)) ?_; clear F a; intro a F
  refine wpList_nil ?_
  replace F : Fr 139 a [(0, .slice (some ad) ls.length c), (2, .bool false), (3, .int .i64 ((al + s.length + 1 : Nat) : Int)), (4, .int .i64 ((i : Nat) : Int)), (5, .string (ST.str s)), (6, .slice A_37 (((rdR sUrl s (decide (s.length % 4 ≠ 1))).1).length) c_37), (7, .int .i64 10), (8, .slice A_42 (((rdR sPlain (trim2 s) (decide (s.length % 4 = 0))).1).length) c_42), (9, .int .i64 10), (10, .slice A_47 (((b16R s).1).length) c_47), (11, .int .i64 ((b16R s).2)), (12, .int .i64 ((n10R s).1)), (13, .int .i64 ((n10R s).2)), (14, .string (ST.str (s ++ ([10])))), (18, .bool true), (30, .bool false)] := F.keep ⟨rfl, rfl, rfl, rfl, rfl, rfl, rfl, rfl, rfl, rfl, rfl, rfl, rfl, rfl, rfl, rfl, trivial⟩
  refine then_n ?_
  refine wp_seq ?_
  refine wp_region_lit ?_
  refine list_val F (wn rfl) rfl rfl (.string (ST.str (s ++ ([10])))) (ex_move _ rfl _ (F.e rfl)) ?_; clear F a; intro a F
  refine list_do (wn rfl) (fun K hK => ?_)
  refine ow_call rfl rfl F 16 #[.string (ST.str (s ++ ([10])))] (ex_call 16 _ _ rfl rfl g4_ent_16 _ (map1 (F.e rfl))) (bytes16_any (s ++ [10]) _ (by simp; omega)) (fun e v hR => ?_)
  obtain ⟨A_112, c_112, he, O_112, hb⟩ := hR
  replace O_112 := O_112.low M.bel.size
  rw [bad16] at he; clear O_112
  refine ⟨.tuple #[.slice A_112 (([] : List UInt8).length) c_112, .int .i64 10], he, ?_⟩; clear he F a; intro a F
  refine hK _ _ ?_
  clear hK K
  replace M := M.below hb; clear hb; try clear u
  refine list_val F (wn rfl) rfl rfl (.tuple #[.slice A_112 (([] : List UInt8).length) c_112, .int .i64 10]) (ex_move _ rfl _ (F.e rfl)) ?_; clear F a; intro a F
  refine list_val F (wn rfl) rfl rfl (.slice A_112 (([] : List UInt8).length) c_112) (ex_extract _ _ rfl _ (F.e rfl) _ rfl) ?_; clear F a; intro a F
  refine list_val F (wn rfl) rfl rfl (.int .i64 10) (ex_extract _ _ rfl _ (F.e rfl) _ rfl) ?_; clear F a; intro a F
  refine list_val F (wn rfl) rfl rfl (.int .i64 10) (ex_assign _ rfl _ (F.e rfl)) ?_; clear F a; intro a F
  refine wpList_nil ?_
  replace F : Fr 139 a [(0, .slice (some ad) ls.length c), (2, .bool false), (3, .int .i64 ((al + s.length + 1 : Nat) : Int)), (4, .int .i64 ((i : Nat) : Int)), (5, .string (ST.str s)), (6, .slice A_37 (((rdR sUrl s (decide (s.length % 4 ≠ 1))).1).length) c_37), (7, .int .i64 10), (8, .slice A_42 (((rdR sPlain (trim2 s) (decide (s.length % 4 = 0))).1).length) c_42), (9, .int .i64 10), (10, .slice A_47 (((b16R s).1).length) c_47), (11, .int .i64 10), (12, .int .i64 ((n10R s).1)), (13, .int .i64 ((n10R s).2)), (14, .string (ST.str (s ++ ([10])))), (18, .bool true), (30, .bool false)] := F.keep ⟨rfl, rfl, rfl, rfl, rfl, rfl, rfl, rfl, rfl, rfl, rfl, rfl, rfl, rfl, rfl, rfl, trivial⟩
  refine then_n ?_
  refine wp_seq ?_
  refine wp_region_lit ?_
  refine list_val F (wn rfl) rfl rfl (.string (ST.str (s ++ ([10])))) (ex_move _ rfl _ (F.e rfl)) ?_; clear F a; intro a F
  refine list_do (wn rfl) (fun K hK => ?_)
  refine ow_call rfl rfl F 17 #[.string (ST.str (s ++ ([10])))] (ex_call 17 _ _ rfl rfl g4_ent_17 _ (map1 (F.e rfl))) (number10_any (s ++ [10]) _ (hE.below M.bel) (by simp; omega)) (fun e u hR => ?_)
  obtain ⟨he, hb⟩ := hR
  rw [bad10] at he
  refine ⟨.tuple #[.int .i64 0, .int .i64 13], he, ?_⟩; clear he F a; intro a F
  refine hK _ _ ?_
  clear hK K
  replace M := M.below hb; clear hb; try clear v
  refine list_val F (wn rfl) rfl rfl (.tuple #[.int .i64 0, .int .i64 13]) (ex_move _ rfl _ (F.e rfl)) ?_; clear F a; intro a F
  refine list_val F (wn rfl) rfl rfl (.int .i64 0) (ex_extract _ _ rfl _ (F.e rfl) _ rfl) ?_; clear F a; intro a F
  refine list_val F (wn rfl) rfl rfl (.int .i64 13) (ex_extract _ _ rfl _ (F.e rfl) _ rfl) ?_; clear F a; intro a F
  refine list_val F (wn rfl) rfl rfl (.int .i64 13) (ex_assign _ rfl _ (F.e rfl)) ?_; clear F a; intro a F
  refine wpList_nil ?_
  replace F : Fr 139 a [(0, .slice (some ad) ls.length c), (2, .bool false), (3, .int .i64 ((al + s.length + 1 : Nat) : Int)), (4, .int .i64 ((i : Nat) : Int)), (5, .string (ST.str s)), (6, .slice A_37 (((rdR sUrl s (decide (s.length % 4 ≠ 1))).1).length) c_37), (7, .int .i64 10), (8, .slice A_42 (((rdR sPlain (trim2 s) (decide (s.length % 4 = 0))).1).length) c_42), (9, .int .i64 10), (10, .slice A_47 (((b16R s).1).length) c_47), (11, .int .i64 10), (12, .int .i64 ((n10R s).1)), (13, .int .i64 13), (14, .string (ST.str (s ++ ([10])))), (18, .bool true), (30, .bool false)] := F.keep ⟨rfl, rfl, rfl, rfl, rfl, rfl, rfl, rfl, rfl, rfl, rfl, rfl, rfl, rfl, rfl, rfl, trivial⟩
  refine then_n ?_
  refine wp_seq ?_
  refine wp_region_lit ?_
  refine list_val F (wn rfl) rfl rfl (.int .i64 10) (ex_move _ rfl _ (F.e rfl)) ?_; clear F a; intro a F
  refine list_do (wn rfl) (fun K hK => ?_)
  refine ow_call rfl rfl F 11 #[.int .i64 10] (ex_call 11 _ _ rfl rfl g4_ent_11 _ (map1 (F.e rfl))) (num_any 10 _) (fun e v hR => ?_)
  obtain ⟨he, hb⟩ := hR
  refine ⟨.int .i64 10, he, ?_⟩; clear he F a; intro a F
  refine hK _ _ ?_
  clear hK K
  replace M := M.below hb; clear hb; try clear u
  refine list_val F (wn rfl) rfl rfl (.bool false) (ex_bin .neq _ _ _ _ rfl .i64 _ _ (F.e rfl) rfl _ (b_neq (by decide))) ?_; clear F a; intro a F
  refine list_val F (wn rfl) rfl rfl (.bool false) (ex_move _ rfl _ (F.e rfl)) ?_; clear F a; intro a F
  refine list_val F (F.wants 123 false rfl (by kernel_rfl) rfl true rfl) rfl rfl (.int .i64 10) (ex_move _ rfl _ (F.e rfl)) ?_; clear F a; intro a F
  refine list_do (F.wants 123 false rfl (by kernel_rfl) rfl true rfl) (fun K hK => ?_)
  refine ow_call rfl rfl F 11 #[.int .i64 10] (ex_call 11 _ _ rfl rfl g4_ent_11 _ (map1 (F.e rfl))) (num_any 10 _) (fun e u hR => ?_)
  obtain ⟨he, hb⟩ := hR
  refine ⟨.int .i64 10, he, ?_⟩; clear he F a; intro a F
  refine hK _ _ ?_
  clear hK K
  replace M := M.below hb; clear hb; try clear v
  refine list_val F (F.wants 123 false rfl (by kernel_rfl) rfl true rfl) rfl rfl (.bool false) (ex_bin .neq _ _ _ _ rfl .i64 _ _ (F.e rfl) rfl _ (b_neq (by decide))) ?_; clear F a; intro a F
  refine list_val F (wn rfl) rfl rfl (.bool false) (ex_pick_f _ _ _ rfl (F.e rfl) _ (F.e rfl)) ?_; clear F a; intro a F
  refine list_val F (wn rfl) rfl rfl (.bool false) (ex_move _ rfl _ (F.e rfl)) ?_; clear F a; intro a F
  refine list_val F (F.wants 128 false rfl (by kernel_rfl) rfl true rfl) rfl rfl (.int .i64 10) (ex_move _ rfl _ (F.e rfl)) ?_; clear F a; intro a F
  refine list_do (F.wants 128 false rfl (by kernel_rfl) rfl true rfl) (fun K hK => ?_)
  refine ow_call rfl rfl F 11 #[.int .i64 10] (ex_call 11 _ _ rfl rfl g4_ent_11 _ (map1 (F.e rfl))) (num_any 10 _) (fun e v hR => ?_)
  obtain ⟨he, hb⟩ := hR
  refine ⟨.int .i64 10, he, ?_⟩; clear he F a; intro a F
  refine hK _ _ ?_
  clear hK K
  replace M := M.below hb; clear hb; try clear u
  refine list_val F (F.wants 128 false rfl (by kernel_rfl) rfl true rfl) rfl rfl (.bool false) (ex_bin .neq _ _ _ _ rfl .i64 _ _ (F.e rfl) rfl _ (b_neq (by decide))) ?_; clear F a; intro a F
  refine list_val F (wn rfl) rfl rfl (.bool false) (ex_pick_f _ _ _ rfl (F.e rfl) _ (F.e rfl)) ?_; clear F a; intro a F
  refine list_val F (wn rfl) rfl rfl (.bool false) (ex_move _ rfl _ (F.e rfl)) ?_; clear F a; intro a F
  refine list_val F (F.wants 133 false rfl (by kernel_rfl) rfl true rfl) rfl rfl (.int .i64 13) (ex_move _ rfl _ (F.e rfl)) ?_; clear F a; intro a F
  refine list_do (F.wants 133 false rfl (by kernel_rfl) rfl true rfl) (fun K hK => ?_)
  refine ow_call rfl rfl F 11 #[.int .i64 13] (ex_call 11 _ _ rfl rfl g4_ent_11 _ (map1 (F.e rfl))) (num_any 13 _) (fun e u hR => ?_)
  obtain ⟨he, hb⟩ := hR
  refine ⟨.int .i64 13, he, ?_⟩; clear he F a; intro a F
  refine hK _ _ ?_
  clear hK K
  replace M := M.below hb; clear hb; try clear v
  refine list_val F (F.wants 133 false rfl (by kernel_rfl) rfl true rfl) rfl rfl (.bool false) (ex_bin .neq _ _ _ _ rfl .i64 _ _ (F.e rfl) rfl _ (b_neq (by decide))) ?_; clear F a; intro a F
  refine list_val F (wn rfl) rfl rfl (.bool false) (ex_pick_f _ _ _ rfl (F.e rfl) _ (F.e rfl)) ?_; clear F a; intro a F
  refine wpList_nil ?_
  replace F : Fr 139 a [(0, .slice (some ad) ls.length c), (2, .bool false), (3, .int .i64 ((al + s.length + 1 : Nat) : Int)), (4, .int .i64 ((i : Nat) : Int)), (5, .string (ST.str s)), (6, .slice A_37 (((rdR sUrl s (decide (s.length % 4 ≠ 1))).1).length) c_37), (7, .int .i64 10), (8, .slice A_42 (((rdR sPlain (trim2 s) (decide (s.length % 4 = 0))).1).length) c_42), (9, .int .i64 10), (10, .slice A_47 (((b16R s).1).length) c_47), (11, .int .i64 10), (12, .int .i64 ((n10R s).1)), (13, .int .i64 13), (14, .string (ST.str (s ++ ([10])))), (18, .bool true), (30, .bool false), (137, .bool false)] := F.keep ⟨rfl, rfl, rfl, rfl, rfl, rfl, rfl, rfl, rfl, rfl, rfl, rfl, rfl, rfl, rfl, rfl, rfl, trivial⟩
  refine then_n ?_
  refine wp_cond_false (F.e rfl) ?_
  refine wp_skip ?_
  refine in_n ?_
  refine then_n ?_
  refine wp_region_lit ?_
  refine list_val F (wn rfl) rfl rfl (.int .i64 ((i : Nat) : Int)) (ex_move _ rfl _ (F.e rfl)) ?_; clear F a; intro a F
  refine list_val F (wn rfl) rfl rfl (.int .i64 ((i + 1 : Nat) : Int)) (ex_bin .add _ _ _ _ rfl .i64 _ _ (F.e rfl) rfl _ (b_add ((w_i64 (by omega) (by omega)).trans (by omega)))) ?_; clear F a; intro a F
  refine list_val F (wn rfl) rfl rfl (.int .i64 ((i + 1 : Nat) : Int)) (ex_assign _ rfl _ (F.e rfl)) ?_; clear F a; intro a F
  refine wpList_nil ?_
  replace F : Fr 139 a [(0, .slice (some ad) ls.length c), (2, .bool false), (3, .int .i64 ((al + s.length + 1 : Nat) : Int)), (4, .int .i64 ((i + 1 : Nat) : Int)), (5, .string (ST.str s)), (6, .slice A_37 (((rdR sUrl s (decide (s.length % 4 ≠ 1))).1).length) c_37), (7, .int .i64 10), (8, .slice A_42 (((rdR sPlain (trim2 s) (decide (s.length % 4 = 0))).1).length) c_42), (9, .int .i64 10), (10, .slice A_47 (((b16R s).1).length) c_47), (11, .int .i64 10), (12, .int .i64 ((n10R s).1)), (13, .int .i64 13), (14, .string (ST.str (s ++ ([10])))), (18, .bool true), (30, .bool false), (137, .bool false)] := F.keep ⟨rfl, rfl, rfl, rfl, rfl, rfl, rfl, rfl, rfl, rfl, rfl, rfl, rfl, rfl, rfl, rfl, rfl, trivial⟩
  refine then_n ?_
  exact ⟨ls.length - (i + 1), by omega, (i + 1), (al + s.length + 1), F.keep ⟨rfl, rfl, rfl, rfl, trivial⟩, (by refine M.pick' [] _ ?_ (by decide); exact trivial), (by omega), (by omega), (by omega)⟩
 refine wp_seq ?_
 refine wp_seq ?_
 refine wp_region_lit ?_
 refine list_val F (wn rfl) rfl rfl (.int .i64 ((i : Nat) : Int)) (ex_move _ rfl _ (F.e rfl)) ?_; clear F a; intro a F
 refine list_val F (wn rfl) rfl rfl (.slice A ls.length c) (ex_move _ rfl _ (F.e rfl)) ?_; clear F a; intro a F
 refine list_val F (wn rfl) rfl rfl (.int .i64 ((ls.length : Nat) : Int)) (ex_len _ _ rfl 1 g4_sl_23_1 _ _ _ (F.e rfl)) ?_; clear F a; intro a F
 refine list_val F (wn rfl) rfl rfl (.bool false) (ex_bin .lss _ _ _ _ rfl .i64 _ _ (F.e rfl) (F.e rfl) _ (b_lss (decide_eq_false (by omega)))) ?_; clear F a; intro a F
 refine wpList_nil ?_
 replace F : Fr 139 a [(0, .slice A ls.length c), (2, .bool false), (3, .int .i64 ((al : Nat) : Int)), (4, .int .i64 ((i : Nat) : Int)), (18, .bool false)] := F.keep ⟨rfl, rfl, rfl, rfl, rfl, trivial⟩
 refine then_n ?_
 refine wp_cond_false (F.e rfl) ?_
 refine wp_exit ?_
 refine then_x ?_
 refine then_x ?_
 refine in_hit ?_
 refine then_n ?_
 refine wp_seq ?_
 refine wp_region_lit ?_
 refine list_do (wn rfl) (fun K hK => ?_)
 refine ow_call rfl rfl F 13 #[] (ex_call 13 _ _ rfl rfl g4_ent_13 _ (map0)) (lays_any _ (hE.below M.bel)) (fun e u hR => ?_)
 obtain ⟨he, hb⟩ := hR
 refine ⟨.bool true, he, ?_⟩; clear he F a; intro a F
 refine hK _ _ ?_
 clear hK K
 replace M := M.below hb; clear hb; try clear v
 refine list_val F (wn rfl) rfl rfl (.bool true) (ex_assign _ rfl _ (F.e rfl)) ?_; clear F a; intro a F
 refine wpList_nil ?_
 replace F : Fr 139 a [(0, .slice A ls.length c), (2, .bool true), (3, .int .i64 ((al : Nat) : Int)), (4, .int .i64 ((i : Nat) : Int)), (18, .bool false)] := F.keep ⟨rfl, rfl, rfl, rfl, rfl, trivial⟩
 refine then_n ?_
 refine wp_ret ?_
 exact ret_tmp F rfl rfl ⟨rfl, M.bel⟩
end Go.Proofs.YtadaacoddfkalaaDoor
