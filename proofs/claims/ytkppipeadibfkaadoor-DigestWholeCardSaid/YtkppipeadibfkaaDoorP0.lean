/- Hashes of one's own in a law: Write (33), Len (36); a hash's row among the rows of one's own. Conditions: the table is laid. -/
import Derived.Test.YtkppipeadibfkaaDoorLW
namespace Go.Proofs.YtkppipeadibfkaaDoor
open Go.RowKit Go.Proofs.YtkppipeadibfkaaDoorW.PrintWords KB WG
set_option linter.unusedVariables false
set_option linter.unusedSimpArgs false
set_option linter.unnecessarySimpa false
theorem OwB.chg {w w' : World} {base g : Nat} {R : Option Nat} {v : Value} {bs : List By} (h : OwB w base v bs) (hC : Ch w w' g R) (hr : ∀ k, v.ownBlock = some k → k ≠ g ∧ some k ≠ R) : OwB w' base v bs :=
  Kd.R_mono (Kd.R_step (ok := fun k => True ∧ k ≠ g ∧ some k ≠ R) ⟨fun k hk => ⟨trivial, hr k hk⟩, by
    obtain ⟨_, inner, ho, hrr⟩ := h
    exact ⟨inner, ho, hrr.imp_ (fun _ _ hp => hp)⟩⟩ (fun k hk hlt => hC.block k hlt hk.2.1 hk.2.2)) (fun _ _ => trivial)
theorem Rs.take {w0 w w' : World} {l : List Rw} (R : Rs w0 w l) {i g : Nat} {sl sl' : Value} {xs zs : List By} {cells : Array Value} (hi : l[i]? = some (sl, xs)) (hg : w.heap[g]? = some (.cells cells 82 (0, 0))) (hC : Cg w w' g sl.ownBlock sl') (hO : OwB w' w0.heap.size sl' zs) : Rs w0 w' (l.set i (sl', zs)) where
  own := fun j u cs h => by
    rw [List.getElem?_set] at h
    split at h
    · split at h
      · obtain ⟨rfl, rfl⟩ : sl' = u ∧ zs = cs := by simpa using h
        exact hO
      · cases h
    · rename_i hne
      refine (R.own j u cs h).chg hC.1 (fun k hk => ⟨fun e => ?_, fun e => hne (R.nd i j sl u xs cs k hi h e.symm hk)⟩)
      subst e
      obtain ⟨_, _, c, hc⟩ := (R.own j u cs h).bound hk
      rw [hg] at hc
      injection hc with hc
      injection hc with _ hc
      exact absurd hc (by decide)
  nd := fun j k a b bs1 bs2 m hj hk ha hb => by
    have key : ∀ (j : Nat) (a : Value) (bs1 : List By), (l.set i (sl', zs))[j]? = some (a, bs1) → a.ownBlock = some m → j = i ∧ sl'.ownBlock = some m ∨ j ≠ i ∧ l[j]? = some (a, bs1) := fun j a bs1 h e => by
      rw [List.getElem?_set] at h
      split at h
      · rename_i e2
        split at h
        · obtain ⟨rfl, rfl⟩ : sl' = a ∧ zs = bs1 := by simpa using h
          exact .inl ⟨e2.symm, e⟩
        · cases h
      · rename_i e2; exact .inr ⟨fun e3 => e2 e3.symm, h⟩
    have far : ∀ (j : Nat) (a : Value) (bs1 : List By), j ≠ i → l[j]? = some (a, bs1) → a.ownBlock = some m → sl'.ownBlock = some m → False := fun j a bs1 hne h e1 e2 => by
      rcases hC.2 with h3 | ⟨k, h3, h4⟩
      · exact hne (R.nd j i a sl bs1 xs m h hi e1 (by rw [← h3]; exact e2))
      · rw [e2] at h3
        have := Option.some.inj h3
        have := ((R.own j a bs1 h).bound e1).2.1
        omega
    rcases key j a bs1 hj ha with ⟨h1, h2⟩ | ⟨h1, h2⟩ <;> rcases key k b bs2 hk hb with ⟨h3, h4⟩ | ⟨h3, h4⟩
    · rw [h1, h3]
    · exact (far k b bs2 h3 h4 hb h2).elim
    · exact (far j a bs1 h1 h2 ha h4).elim
    · exact R.nd j k a b bs1 bs2 m h2 h4 ha hb
theorem Rs.addnew {w0 w : World} {l : List Rw} (R : Rs w0 w l) : Rs w0 w ((.slice none (feed hIni []).2.length 0, (feed hIni []).2) :: l) := by rw [feed_nil]; exact R.addnil
theorem num_app {all b all' : List By} {n : Nat} (hb : b.length = n) (ha : all ++ b = all') : BitVec.ofNat 64 all.length + BitVec.ofNat 64 n = BitVec.ofNat 64 all'.length := by
  rw [← ha, List.length_append, BitVec.ofNat_add, hb]
/-- A row of one's own lies apart from a hash and its row. -/
theorem Rs.nd' {w0 w : World} {l : List Rw} (R : Rs w0 w l) {i j : Nat} {A : Option Addr} {n c : Nat} {bs cs : List By} {v : Value} (hi : l[i]? = some (.slice A n c, bs)) (hj : l[j]? = some (v, cs)) (hne : i ≠ j) : ∀ ad, A = some ad → some ad.block ≠ v.ownBlock := R.apart hi hj hne
theorem Rs.rba {w0 w : World} {l : List Rw} (R : Rs w0 w l) {i j g : Nat} {A : Option Addr} {n c m : Nat} {b xs : List By} {sl : Value} {bs : List By} {cells : Array Value} (hj : l[j]? = some (.slice A m c, bs)) (hr : Rb w A n b) (hc : n ≤ c) (hi : l[i]? = some (sl, xs)) (hne : j ≠ i) (hg : w.heap[g]? = some (.cells cells 82 (0, 0))) : RbA w A n c b g sl :=
  ⟨hr, hc, fun _ ad e => ⟨(R.own j _ _ hj).ne hg ad e, R.nd' hj hi hne ad e⟩⟩
theorem dz_ent_45 : ent? Tryd.prog 45 = true := by kernel_rfl
set_option maxHeartbeats 4000000 in
set_option maxRecDepth 100000 in
theorem write_to (all all' : List By) (A : Option Addr) (k : Nat) (x x' : Nm) (b : List By) (B : Option Addr) (n c : Nat) (g base : Nat) (w : World) (hKt : At w ⟨0, 0, none⟩ (wcs kTab)) (h0 : 0 < base) (hbs : base ≤ w.heap.size) (hbg : base ≤ g)
    (hblk : w.heap[g]? = some (.cells (hcs (feed hIni all).1 (.slice A (feed hIni all).2.length k) (x.toNat : Int)).toArray 82 (0, 0))) (hO : OwB w base (.slice A (feed hIni all).2.length k) (feed hIni all).2) (hB : RbA w B n c b g (.slice A (feed hIni all).2.length k)) (ha : all ++ b = all') (hx : x + BitVec.ofNat 64 n = x') :
    Calls Tryd.prog 33 #[.pointer (some ⟨g, 0, none⟩), .slice B n c] w fun e w' => e = .returned (.tuple #[]) ∧ ∃ A' k', w'.heap[g]? = some (.cells (hcs (feed hIni all').1 (.slice A' (feed hIni all').2.length k') (x'.toNat : Int)).toArray 82 (0, 0)) ∧ OwB w' base (.slice A' (feed hIni all').2.length k') (feed hIni all').2 ∧ Cg w w' g (Value.slice A (feed hIni all).2.length k).ownBlock (.slice A' (feed hIni all').2.length k') := by
 refine calls_start Tryd.func33 rfl rfl rfl (fun a F => ?_)
 have M : Mm w w [] := Mm.nil w
 refine wp_region_lit ?_
 refine list_val F (wn rfl) rfl rfl (.pointer (some ⟨g, 0, none⟩)) (ex_move _ rfl _ (F.e rfl)) ?_; clear F a; intro a F
 refine list_val F (wn rfl) rfl rfl (.slice B n c) (ex_move _ rfl _ (F.e rfl)) ?_; clear F a; intro a F
 refine list_do (wn rfl) (fun K hK => ?_)
 refine ow_call rfl rfl F 45 #[.pointer (some ⟨g, 0, none⟩), .slice B n c] (ex_call 45 _ _ rfl rfl dz_ent_45 _ (map2 (F.e rfl) (F.e rfl))) (take_to all all' A k x x' b B n c g base _ hKt h0 hbs hbg hblk hO hB ha hx) (fun e v hR => ?_)
 obtain ⟨he, A_6, k_6, hn, O_n, hC⟩ := hR
 refine ⟨.tuple #[], he, ?_⟩; clear he F a; intro a F
 refine hK _ _ ?_
 clear hK K
 clear M
 refine wpList_nil ?_
 replace F : Fr 7 a [(0, .pointer (some ⟨g, 0, none⟩)), (1, .slice B n c)] := F.keep ⟨rfl, rfl, trivial⟩
 exact ret_none F rfl ⟨rfl, A_6, k_6, hn, O_n, hC⟩
theorem dz_fa_82_2_9 : fa? Tryd.prog 82 2 9 = true := by kernel_rfl
theorem dz_one_62 : one? Tryd.prog 62 = true := by kernel_rfl
set_option maxHeartbeats 4000000 in
set_option maxRecDepth 100000 in
theorem len_any0 (all : List By) (sl : Value) (x : Int) (p : Addr) (w : World) (zh : At w p (hcs (feed hIni all).1 sl x)) :
    Calls Tryd.prog 36 #[.pointer (some p)] w fun e w' => e = .returned (.int .u64 x) ∧ Below w.heap.size w w' := by
 refine calls_start Tryd.func36 rfl rfl rfl (fun a F => ?_)
 have M : Mm w w [] := Mm.nil w
 refine wp_seq ?_
 refine wp_region_lit ?_
 refine list_val F (wn rfl) rfl rfl (.int .u64 0) (ex_assign _ rfl _ rfl) ?_; clear F a; intro a F
 refine wpList_nil ?_
 replace F : Fr 7 a [(0, .pointer (some p)), (2, .int .u64 0)] := F.keep ⟨rfl, rfl, trivial⟩
 refine then_n ?_
 refine wp_seq ?_
 refine wp_region_lit ?_
 refine list_val F (wn rfl) rfl rfl (.pointer (some p)) (ex_move _ rfl _ (F.e rfl)) ?_; clear F a; intro a F
 refine list_val F (wn rfl) rfl rfl (.pointer (some p)) (ex_nilck _ rfl _ (F.e rfl)) ?_; clear F a; intro a F
 refine list_val F (wn rfl) rfl rfl (.pointer (some (p.add 9))) (ex_fa _ _ _ rfl _ (F.e rfl) 9 dz_fa_82_2_9 (p.add 9) rfl) ?_; clear F a; intro a F
 refine list_val F (wn rfl) rfl rfl (.int .u64 x) (ex_load _ _ rfl _ (F.e rfl) _ (lv1 dz_one_62 ((zh.below M.bel).cell 9 _ (hcs_9 (feed_len rfl _))))) ?_; clear F a; intro a F
 refine list_val F (wn rfl) rfl rfl (.int .u64 x) (ex_assign _ rfl _ (F.e rfl)) ?_; clear F a; intro a F
 refine wpList_nil ?_
 replace F : Fr 7 a [(0, .pointer (some p)), (2, .int .u64 x)] := F.keep ⟨rfl, rfl, trivial⟩
 refine then_n ?_
 refine wp_ret ?_
 exact ret_tmp F rfl rfl ⟨rfl, M.bel⟩
theorem len_any (all : List By) (sl : Value) (x : Int) (p : Addr) (w : World) (zh : At w p (hcs (feed hIni all).1 sl x)) : Calls Tryd.prog 36 #[.pointer (some p)] w fun e w' => e = .returned (.int .u64 x) ∧ Below w.heap.size w w' := len_any0 all sl x p w zh
theorem ex_pnil {op : Oper} {ρ : Operand → Value} {w : World} (T' : TypeId) (x y : Operand) (ho : op.op = .binOp .eql 53 x y T') (p : Addr) (hx : ρ x = .pointer (some p)) (hy : ρ y = .pointer none) : (execOp ρ op).run Tryd.prog w = .ok (.value (.bool false)) w := by
  refine ex_eql 53 T' x y ho _ _ hx hy _ (by unfold eqGuard; rfl) ?_
  have h : (Op.equal 53 (.pointer (some p)) (.pointer none)).run Tryd.prog w = .ok false w := by
    show (Op.equalIn (9999 + 1) 53 (.pointer (some p)) (.pointer none)).run Tryd.prog w = _
    unfold Op.equalIn
    simp only [Sem.run_bind, run_underlying Tryd.underlying53 w, Result.andThen_ok]
    rfl
  unfold binOp
  simp only [Sem.run_bind, h, Result.andThen_ok]
  rfl
end Go.Proofs.YtkppipeadibfkaaDoor
