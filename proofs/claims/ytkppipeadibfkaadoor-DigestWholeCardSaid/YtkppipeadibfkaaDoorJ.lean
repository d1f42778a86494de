/- posternlaw4.wakes; num, markAt; rows that are lent. Conditions: the table is laid; what is handed in is read. -/
import Derived.Test.YtkppipeadibfkaaDoorI
namespace Go.Proofs.YtkppipeadibfkaaDoor
open Go.RowKit Go.Proofs.YtkppipeadibfkaaDoorW.PrintWords KB WG
set_option linter.unusedVariables false
set_option linter.unusedSimpArgs false
set_option linter.unnecessarySimpa false
theorem sha_one {b : List By} (h : (full b).length = 64) : sha b = outB (blk hIni (full b)) := by
  rw [sha, feed_ge (by omega), List.take_of_length_le (by omega), List.drop_eq_nil_of_le (by omega), feed_nil]
theorem sha_two {b : List By} (h : (full b).length = 128) : sha b = outB (blk (blk hIni ((full b).take 64)) ((full b).drop 64)) := by
  have h1 : ((full b).drop 64).length = 64 := by rw [List.length_drop]; omega
  rw [sha, feed_ge (by omega), feed_ge (by omega), List.take_of_length_le (Nat.le_of_eq h1), List.drop_eq_nil_of_le (Nat.le_of_eq h1), feed_nil]
section
set_option maxRecDepth 100000
theorem k_abc : outB (blk hIni (full [97, 98, 99])) = [186, 120, 22, 191, 143, 1, 207, 234, 65, 65, 64, 222, 93, 174, 34, 35, 176, 3, 97, 163, 150, 23, 122, 156, 180, 16, 255, 97, 242, 0, 21, 173] := by decide +kernel
theorem sha_abc : sha [97, 98, 99] = [186, 120, 22, 191, 143, 1, 207, 234, 65, 65, 64, 222, 93, 174, 34, 35, 176, 3, 97, 163, 150, 23, 122, 156, 180, 16, 255, 97, 242, 0, 21, 173] := by rw [sha_one (by decide +kernel), k_abc]
def jefe : List By := [74, 101, 102, 101]
def what : List By := [119, 104, 97, 116, 32, 100, 111, 32, 121, 97, 32, 119, 97, 110, 116, 32, 102, 111, 114, 32, 110, 111, 116, 104, 105, 110, 103, 63]
def kin (k b : List By) : List By := (k ++ List.replicate (64 - k.length) 0).map (· ^^^ 0x36) ++ b
def kout (k d : List By) : List By := (k ++ List.replicate (64 - k.length) 0).map (· ^^^ 0x5c) ++ d
theorem mac_short {k b : List By} (h : ¬ 64 < k.length) : mac k b = sha (kout k (sha (kin k b))) := by
  unfold mac key64 kin kout
  rw [if_neg h]
def two (b : List By) : List By := outB (blk (blk hIni ((full b).take 64)) ((full b).drop 64))
theorem mac_jefe : mac jefe what = two (kout jefe (two (kin jefe what))) := by
  have e : sha (kin jefe what) = two (kin jefe what) := sha_two (by decide +kernel)
  have e2 : sha (kout jefe (two (kin jefe what))) = two (kout jefe (two (kin jefe what))) := sha_two (by decide +kernel)
  rw [mac_short (by decide), e, e2]
theorem k_jefe0 : (two (kout jefe (two (kin jefe what)))).getD 0 0 = 91 := by decide +kernel
theorem k_jefe31 : (two (kout jefe (two (kin jefe what)))).getD 31 0 = 67 := by decide +kernel
end
theorem kA0 : (sha [97, 98, 99]).getD 0 0 = 186 := by rw [sha_abc]; rfl
theorem kA31 : (sha [97, 98, 99]).getD 31 0 = 173 := by rw [sha_abc]; rfl
theorem kM0 : (mac [74, 101, 102, 101] [119, 104, 97, 116, 32, 100, 111, 32, 121, 97, 32, 119, 97, 110, 116, 32, 102, 111, 114, 32, 110, 111, 116, 104, 105, 110, 103, 63]).getD 0 0 = 91 := (congrArg (fun l : List By => l.getD 0 0) mac_jefe).trans k_jefe0
theorem kM31 : (mac [74, 101, 102, 101] [119, 104, 97, 116, 32, 100, 111, 32, 121, 97, 32, 119, 97, 110, 116, 32, 102, 111, 114, 32, 110, 111, 116, 104, 105, 110, 103, 63]).getD 31 0 = 67 := (congrArg (fun l : List By => l.getD 31 0) mac_jefe).trans k_jefe31
theorem b40_0 (w : World) : (Instr.build 40 #[]).run Tryd.prog w = .ok (.agg (bcs (List.replicate 16 0)).toArray) w := by kernel_rfl
/-- A constant's row gets the run-time's mark. -/
theorem run_mark (w : World) (g l : Nat) (cs : Array Value) (h : w.heap[g]? = some (.cells cs 5 (0, 0))) : (convert 23 23 (.slice (some ⟨g, 0, none⟩) l l)).run Tryd.prog w = .ok (.slice (some ⟨g, 0, none⟩) l l) (w.freeze ⟨g, cs.size, none⟩ 1) := by
  have h5 : Tryd.prog.underlying 5 = some (.int .u8) := by kernel_rfl
  have hsh : w.shape? g = some (5, cs.size) := by unfold World.shape?; rw [h]
  simp [convert, run_underlying Tryd.underlying23, run_underlying h5, markStringish, hsh, Result.andThen]
theorem freeze_other (w : World) (g n k : Nat) (hk : k ≠ g) : (w.freeze ⟨g, n, none⟩ 1).heap[k]? = w.heap[k]? := by
  have : g ≠ k := fun e => hk e.symm
  simp [World.freeze, Array.getElem?_modify, this]
theorem freeze_cell (w : World) (g n : Nat) (a : Addr) : (w.freeze ⟨g, n, none⟩ 1).cell? a = w.cell? a := by
  by_cases e : a.block = g
  · subst e
    cases h : w.heap[a.block]? with
    | none => simp [World.cell?, World.freeze, Array.getElem?_modify, h]
    | some o => cases o <;> simp [World.cell?, World.freeze, Array.getElem?_modify, h]
  · have := freeze_other w g n a.block e
    simp only [World.cell?, this]
theorem freeze_grown (w : World) (g n : Nat) : w.grownBy (w.freeze ⟨g, n, none⟩ 1) (some g) := by
  refine ⟨?_, ?_, ?_, ?_, fun k hk hne => freeze_other w g n k (fun e => hne (by rw [e]))⟩ <;> simp [World.freeze]
section
variable {a : Act} {w w0 : World} {n : Nat} {L : List (Nat × Value)} {H : List Blk} {op : Oper} {K : Act → World → Prop} {Q : Exit → Act → World → Prop}
theorem ow_mark (F : Fr n a L) {d : Nat} (hd : op.dst = some d) (hlt : Nat.blt d n = true) (x : Operand) (ho : op.op = .convert 23 23 x) (g : Nat) (bs : List By) (M : Mm w0 w (⟨g, (bcs bs).toArray, 5⟩ :: H)) (l : Nat) (hx : a.eval x = .slice (some ⟨g, 0, none⟩) l l) (hl : bs.length = l) (hm : Nat.ble l maxLen = true)
    (h : ∀ a' w', Fr n a' ((d, .slice (some ⟨g, 0, none⟩) l l) :: L) → Mm w0 w' H → Rb w' (some ⟨g, 0, none⟩) l bs → w.grownBy w' (some g) → K a' w') : op.wp Tryd.prog a w K Q := by
  have hb := M.blk 0 _ rfl
  have hr := run_mark w g l (bcs bs).toArray hb
  have hg := freeze_grown w g (bcs bs).toArray.size
  have M' : Mm w0 (w.freeze ⟨g, (bcs bs).toArray.size, none⟩ 1) H := by
    have Mt := M.tail
    refine ⟨M.bel.grown hg M.bel.size (fun k hk => by injection hk with hk; rw [← hk]; exact M.lo 0 _ rfl), fun i b hi => ?_, Mt.lo, Mt.nd⟩
    rw [hg.block _ (Mt.lt hi) (fun e => by
      have := M.nd (i + 1) 0 b _ hi rfl (Option.some.inj e)
      omega)]
    exact Mt.blk i b hi
  have hA : At (w.freeze ⟨g, (bcs bs).toArray.size, none⟩ 1) ⟨g, 0, none⟩ (bcs bs) := fun j v hv => by rw [freeze_cell]; exact M.at (i := 0) rfl j v hv
  unfold Oper.wp execOp
  simp only [ho, hx, Sem.run_bind, hr, Result.andThen_ok, Sem.run_pure]
  exact (by rw [hd]; exact h _ _ (F.put _ hlt) M' (Rb.mk' hA hl (Nat.le_of_ble_eq_true hm)) hg : K (a.put op.dst _) _)
end
/-- The marks behind a row that is lent. -/
def mkB (i : Nat) : By := BitVec.ofNat 8 (165 - i)
theorem ex_mark {P : Program} {op : Oper} {ρ : Operand → Value} {w : World} (s t : TypeId) (x : Operand) (ho : op.op = .convert s t x) (h : cv? P s t .u8 = true) (i : Nat) (hx : ρ x = .int .i64 ((165 - i : Nat) : Int)) : (execOp ρ op).run P w = .ok (.value (bv (mkB i))) w :=
  ex_conv s t x ho .i64 .u8 h _ hx _ (w8 (165 - i))
set_option maxHeartbeats 4000000 in
set_option maxRecDepth 100000 in
theorem num_any (n : Int) (w : World) : Calls Tryd.prog 26 #[.int .i64 n] w fun e w' => e = .returned (.int .i64 n) ∧ w' = w := by
 refine calls_start Tryd.func26 rfl rfl rfl (fun a F => ?_)
 have M : Mm w w [] := Mm.nil w
 refine wp_seq ?_
 refine wp_region_lit ?_
 refine list_val F (wn rfl) rfl rfl (.int .i64 0) (ex_assign _ rfl _ rfl) ?_; clear F a; intro a F
 refine wpList_nil ?_
 replace F : Fr 4 a [(0, .int .i64 n), (2, .int .i64 0)] := F.keep ⟨rfl, rfl, trivial⟩
 refine then_n ?_
 refine wp_seq ?_
 refine wp_region_lit ?_
 refine list_val F (wn rfl) rfl rfl (.int .i64 n) (ex_move _ rfl _ (F.e rfl)) ?_; clear F a; intro a F
 refine list_val F (wn rfl) rfl rfl (.int .i64 n) (ex_assign _ rfl _ (F.e rfl)) ?_; clear F a; intro a F
 refine wpList_nil ?_
 replace F : Fr 4 a [(0, .int .i64 n), (2, .int .i64 n)] := F.keep ⟨rfl, rfl, trivial⟩
 refine then_n ?_
 refine wp_ret ?_
 exact ret_tmp F rfl rfl ⟨rfl, rfl⟩
theorem dj_cv_3_5_u8 : cv? Tryd.prog 3 5 .u8 = true := by kernel_rfl
set_option maxHeartbeats 4000000 in
set_option maxRecDepth 100000 in
theorem mark_any (i : Nat) (hi : i < 70) (w : World) : Calls Tryd.prog 42 #[.int .i64 ((i : Nat) : Int)] w fun e w' => e = .returned (bv (mkB i)) ∧ w' = w := by
 refine calls_start Tryd.func42 rfl rfl rfl (fun a F => ?_)
 have M : Mm w w [] := Mm.nil w
 refine wp_seq ?_
 refine wp_region_lit ?_
 refine list_val F (wn rfl) rfl rfl (.int .u8 0) (ex_assign _ rfl _ rfl) ?_; clear F a; intro a F
 refine wpList_nil ?_
 replace F : Fr 6 a [(0, .int .i64 ((i : Nat) : Int)), (2, .int .u8 0)] := F.keep ⟨rfl, rfl, trivial⟩
 refine then_n ?_
 refine wp_seq ?_
 refine wp_region_lit ?_
 refine list_val F (wn rfl) rfl rfl (.int .i64 ((i : Nat) : Int)) (ex_move _ rfl _ (F.e rfl)) ?_; clear F a; intro a F
 refine list_val F (wn rfl) rfl rfl (.int .i64 ((165 - i : Nat) : Int)) (ex_bin .sub _ _ _ _ rfl .i64 _ _ rfl (F.e rfl) _ (b_sub ((w_i64 (by omega) (by omega)).trans (by omega)))) ?_; clear F a; intro a F
 refine list_val F (wn rfl) rfl rfl (bv (mkB i)) (ex_mark _ _ _ rfl dj_cv_3_5_u8 i (F.e rfl)) ?_; clear F a; intro a F
 refine list_val F (wn rfl) rfl rfl (bv (mkB i)) (ex_assign _ rfl _ (F.e rfl)) ?_; clear F a; intro a F
 refine wpList_nil ?_
 replace F : Fr 6 a [(0, .int .i64 ((i : Nat) : Int)), (2, bv (mkB i))] := F.keep ⟨rfl, rfl, trivial⟩
 refine then_n ?_
 refine wp_ret ?_
 exact ret_tmp F rfl rfl ⟨rfl, rfl⟩
theorem dj_ent_15 : ent? Tryd.prog 15 = true := by kernel_rfl
theorem dj_ent_21 : ent? Tryd.prog 21 = true := by kernel_rfl
theorem dj_ent_25 : ent? Tryd.prog 25 = true := by kernel_rfl
theorem dj_ar_24_32 : ar? Tryd.prog 24 32 = true := by kernel_rfl
theorem dj_one_5 : one? Tryd.prog 5 = true := by kernel_rfl
theorem dj_ent_23 : ent? Tryd.prog 23 = true := by kernel_rfl
theorem dj_ent_26 : ent? Tryd.prog 26 = true := by kernel_rfl
set_option maxHeartbeats 4000000 in
set_option maxRecDepth 100000 in
theorem wakes_any (w : World) (hKt : At w ⟨0, 0, none⟩ (wcs kTab)) : Calls Tryd.prog 19 #[] w fun e w' => e = .returned (.bool true) ∧ Below w.heap.size w w' := by
 have hs1 := sha_len [97, 98, 99]
 have hs2 := mac_len [74, 101, 102, 101] [119, 104, 97, 116, 32, 100, 111, 32, 121, 97, 32, 119, 97, 110, 116, 32, 102, 111, 114, 32, 110, 111, 116, 104, 105, 110, 103, 63]
 refine calls_start Tryd.func19 rfl rfl rfl (fun a F => ?_)
 have M : Mm w w [] := Mm.nil w
 refine wp_seq ?_
 refine wp_region_lit ?_
 refine list_val F (wn rfl) rfl rfl (.bool false) (ex_assign _ rfl _ rfl) ?_; clear F a; intro a F
 refine wpList_nil ?_
 replace F : Fr 44 a [(0, .bool false)] := F.keep ⟨rfl, trivial⟩
 refine then_n ?_
 refine wp_seq ?_
 refine wp_region_lit ?_
 refine list_do (wn rfl) (fun K hK => ?_)
 refine ow_bslice F M rfl rfl 23 3 _ rfl #[(0, .int .u8 97), (1, .int .u8 98), (2, .int .u8 99)] (parts3 rfl rfl rfl) ((bcs [97, 98, 99]).toArray) 5 (by kernel_rfl) ?_
 clear F M a; intro a g5 v F M hb hg
 refine hK _ _ ?_
 clear hK K
 clear hb hg; try clear w
 refine list_do (wn rfl) (fun K hK => ?_)
 replace M : Mm w v [⟨g5, ((bcs [97, 98, 99]).toArray), 5⟩] := (by refine M.pick' [0] _ ?_ (by decide); exact ⟨rfl, trivial⟩)
 refine ow_mark F rfl rfl _ rfl g5 [97, 98, 99] M 3 (F.e rfl) rfl rfl ?_
 clear F M a; intro a u F M hL6 hgr
 refine hK _ _ ?_
 clear hK K
 clear hgr; try clear v
 refine list_do (wn rfl) (fun K hK => ?_)
 refine ow_call rfl rfl F 15 #[.slice (some ⟨g5, 0, none⟩) 3 3] (ex_call 15 _ _ rfl rfl dj_ent_15 _ (map1 (F.e rfl))) (sum_bytes [97, 98, 99] _ 3 3 _ (hKt.below M.bel) hL6 (Nat.le_refl _)) (fun e v hR => ?_)
 obtain ⟨he, hb⟩ := hR
 refine ⟨.agg ((bcs (sha [97, 98, 99])).toArray), he, ?_⟩; clear he F a; intro a F
 refine hK _ _ ?_
 clear hK K
 replace hL6 := hL6.below hb
 replace M := M.below hb; clear hb; try clear u
 clear hL6
 refine list_do (wn rfl) (fun K hK => ?_)
 refine ow_alloc F M rfl rfl 24 rfl (.agg (bcs (List.replicate 32 0)).toArray) z24 ((bcs (List.replicate 32 0)).toArray) rfl ?_
 clear F M a; intro a g1 u F M hb hg
 refine hK _ _ ?_
 clear hK K
 clear hb hg; try clear v
 refine list_do (wn rfl) (fun K hK => ?_)
 refine ow_put F M rfl 24 _ _ rfl 0 _ ((bcs (List.replicate 32 0)).toArray) _ rfl (F.e rfl) ((bcs (sha [97, 98, 99])).toArray) (F.e rfl) (sz24 (sha_len _)) (sz_eqb 32 rfl (sha_len _)) (all_oneCell_toArray (bcs_one _)) ?_
 clear F a; have Mo := M; clear M; intro a v F M hgr
 refine hK _ _ ?_
 clear hK K
 clear Mo hgr; try clear u
 replace M : Mm w v [⟨g1, (bcs (sha [97, 98, 99])).toArray, 24⟩] := M
 refine wpList_nil ?_
 replace F : Fr 44 a [(0, .bool false), (1, .pointer (some ⟨g1, 0, none⟩))] := F.keep ⟨rfl, rfl, trivial⟩
 refine then_n ?_
 refine wp_seq ?_
 refine wp_region_lit ?_
 refine list_do (wn rfl) (fun K hK => ?_)
 refine ow_bslice F M rfl rfl 23 4 _ rfl #[(0, .int .u8 74), (1, .int .u8 101), (2, .int .u8 102), (3, .int .u8 101)] (parts4 rfl rfl rfl rfl) ((bcs [74, 101, 102, 101]).toArray) 5 (by kernel_rfl) ?_
 clear F M a; intro a g8 u F M hb hg
 refine hK _ _ ?_
 clear hK K
 clear hb hg; try clear v
 refine list_do (wn rfl) (fun K hK => ?_)
 replace M : Mm w u [⟨g8, ((bcs [74, 101, 102, 101]).toArray), 5⟩, ⟨g1, (bcs (sha [97, 98, 99])).toArray, 24⟩] := (by refine M.pick' [0, 1] _ ?_ (by decide); exact ⟨rfl, rfl, trivial⟩)
 refine ow_mark F rfl rfl _ rfl g8 [74, 101, 102, 101] M 4 (F.e rfl) rfl rfl ?_
 clear F M a; intro a v F M hL9 hgr
 refine hK _ _ ?_
 clear hK K
 clear hgr; try clear u
 refine list_do (wn rfl) (fun K hK => ?_)
 refine ow_bslice F M rfl rfl 23 28 _ rfl #[(0, .int .u8 119), (1, .int .u8 104), (2, .int .u8 97), (3, .int .u8 116), (4, .int .u8 32), (5, .int .u8 100), (6, .int .u8 111), (7, .int .u8 32), (8, .int .u8 121), (9, .int .u8 97), (10, .int .u8 32), (11, .int .u8 119), (12, .int .u8 97), (13, .int .u8 110), (14, .int .u8 116), (15, .int .u8 32), (16, .int .u8 102), (17, .int .u8 111), (18, .int .u8 114), (19, .int .u8 32), (20, .int .u8 110), (21, .int .u8 111), (22, .int .u8 116), (23, .int .u8 104), (24, .int .u8 105), (25, .int .u8 110), (26, .int .u8 103), (27, .int .u8 63)] (by simp [Act.eval]) ((bcs [119, 104, 97, 116, 32, 100, 111, 32, 121, 97, 32, 119, 97, 110, 116, 32, 102, 111, 114, 32, 110, 111, 116, 104, 105, 110, 103, 63]).toArray) 5 (by kernel_rfl) ?_
 clear F M a; intro a g10 u F M hb hg
 refine hK _ _ ?_
 clear hK K
 have hne10 : g8 ≠ g10 := by have := hL9.lt (by decide) _ rfl; simp only at this; omega
 replace hL9 := hL9.below hb
 clear hb hg; try clear v
 refine list_do (wn rfl) (fun K hK => ?_)
 replace M : Mm w u [⟨g10, ((bcs [119, 104, 97, 116, 32, 100, 111, 32, 121, 97, 32, 119, 97, 110, 116, 32, 102, 111, 114, 32, 110, 111, 116, 104, 105, 110, 103, 63]).toArray), 5⟩, ⟨g1, (bcs (sha [97, 98, 99])).toArray, 24⟩] := (by refine M.pick' [0, 1] _ ?_ (by decide); exact ⟨rfl, rfl, trivial⟩)
 refine ow_mark F rfl rfl _ rfl g10 [119, 104, 97, 116, 32, 100, 111, 32, 121, 97, 32, 119, 97, 110, 116, 32, 102, 111, 114, 32, 110, 111, 116, 104, 105, 110, 103, 63] M 28 (F.e rfl) rfl rfl ?_
 clear F M a; intro a v F M hL11 hgr
 refine hK _ _ ?_
 clear hK K
 replace hL9 := Rb.grown hL9 hgr (fun _ ad e e2 => hne10 (by cases e; exact Option.some.inj e2))
 clear hgr; try clear u
 refine list_do (wn rfl) (fun K hK => ?_)
 refine ow_call rfl rfl F 21 #[.slice (some ⟨g8, 0, none⟩) 4 4, .slice (some ⟨g10, 0, none⟩) 28 28] (ex_call 21 _ _ rfl rfl dj_ent_21 _ (map2 (F.e rfl) (F.e rfl))) (mac_any [74, 101, 102, 101] [119, 104, 97, 116, 32, 100, 111, 32, 121, 97, 32, 119, 97, 110, 116, 32, 102, 111, 114, 32, 110, 111, 116, 104, 105, 110, 103, 63] _ _ 4 4 28 28 _ (hKt.below M.bel) hL9 (Nat.le_refl _) hL11 (Nat.le_refl _)) (fun e u hR => ?_)
 obtain ⟨he, hb⟩ := hR
 refine ⟨.agg ((bcs (mac [74, 101, 102, 101] [119, 104, 97, 116, 32, 100, 111, 32, 121, 97, 32, 119, 97, 110, 116, 32, 102, 111, 114, 32, 110, 111, 116, 104, 105, 110, 103, 63])).toArray), he, ?_⟩; clear he F a; intro a F
 refine hK _ _ ?_
 clear hK K
 replace hL9 := hL9.below hb
 replace hL11 := hL11.below hb
 replace M := M.below hb; clear hb; try clear v
 clear hL9
 clear hL11
 refine list_do (wn rfl) (fun K hK => ?_)
 refine ow_alloc F M rfl rfl 24 rfl (.agg (bcs (List.replicate 32 0)).toArray) z24 ((bcs (List.replicate 32 0)).toArray) rfl ?_
 clear F M a; intro a g2 v F M hb hg
 refine hK _ _ ?_
 clear hK K
 clear hb hg; try clear u
 refine list_do (wn rfl) (fun K hK => ?_)
 refine ow_put F M rfl 24 _ _ rfl 0 _ ((bcs (List.replicate 32 0)).toArray) _ rfl (F.e rfl) ((bcs (mac [74, 101, 102, 101] [119, 104, 97, 116, 32, 100, 111, 32, 121, 97, 32, 119, 97, 110, 116, 32, 102, 111, 114, 32, 110, 111, 116, 104, 105, 110, 103, 63])).toArray) (F.e rfl) (sz24 (mac_len _ _)) (sz_eqb 32 rfl (mac_len _ _)) (all_oneCell_toArray (bcs_one _)) ?_
 clear F a; have Mo := M; clear M; intro a u F M hgr
 refine hK _ _ ?_
 clear hK K
 clear Mo hgr; try clear v
 replace M : Mm w u [⟨g2, (bcs (mac [74, 101, 102, 101] [119, 104, 97, 116, 32, 100, 111, 32, 121, 97, 32, 119, 97, 110, 116, 32, 102, 111, 114, 32, 110, 111, 116, 104, 105, 110, 103, 63])).toArray, 24⟩, ⟨g1, (bcs (sha [97, 98, 99])).toArray, 24⟩] := M
 refine wpList_nil ?_
 replace F : Fr 44 a [(0, .bool false), (1, .pointer (some ⟨g1, 0, none⟩)), (2, .pointer (some ⟨g2, 0, none⟩))] := F.keep ⟨rfl, rfl, rfl, trivial⟩
 refine then_n ?_
 refine wp_seq ?_
 refine wp_region_lit ?_
 refine list_val F (wn rfl) rfl rfl (.agg ((bcs (List.replicate 16 0)).toArray)) (ex_build 40 _ rfl #[] parts0 (.agg ((bcs (List.replicate 16 0)).toArray)) (b40_0 _)) ?_; clear F a; intro a F
 refine list_do (wn rfl) (fun K hK => ?_)
 refine ow_call rfl rfl F 25 #[.agg ((bcs (List.replicate 16 0)).toArray), .string (strB ([120])), .int .i64 0] (ex_call 25 _ _ rfl rfl dj_ent_25 _ (map3 (F.e rfl) rfl rfl)) (pass_any (List.replicate 16 0) [120] rfl (by simp [maxLen]) 0 _ (hKt.below M.bel)) (fun e v hR => ?_)
 obtain ⟨he, hb⟩ := hR
 rw [passF_no (.inl (by decide))] at he
 refine ⟨.tuple #[.agg ((bcs (List.replicate 32 0)).toArray), .int .i64 40], he, ?_⟩; clear he F a; intro a F
 refine hK _ _ ?_
 clear hK K
 replace M := M.below hb; clear hb; try clear u
 refine list_val F (wn rfl) rfl rfl (.tuple #[.agg ((bcs (List.replicate 32 0)).toArray), .int .i64 40]) (ex_move _ rfl _ (F.e rfl)) ?_; clear F a; intro a F
 refine list_val F (wn rfl) rfl rfl (.agg ((bcs (List.replicate 32 0)).toArray)) (ex_extract _ _ rfl _ (F.e rfl) _ rfl) ?_; clear F a; intro a F
 refine list_val F (wn rfl) rfl rfl (.int .i64 40) (ex_extract _ _ rfl _ (F.e rfl) _ rfl) ?_; clear F a; intro a F
 refine list_do (wn rfl) (fun K hK => ?_)
 refine ow_alloc F M rfl rfl 24 rfl (.agg (bcs (List.replicate 32 0)).toArray) z24 ((bcs (List.replicate 32 0)).toArray) rfl ?_
 clear F M a; intro a g3 u F M hb hg
 refine hK _ _ ?_
 clear hK K
 clear hb hg; try clear v
 refine list_do (wn rfl) (fun K hK => ?_)
 refine ow_put F M rfl 24 _ _ rfl 0 _ ((bcs (List.replicate 32 0)).toArray) _ rfl (F.e rfl) ((bcs (List.replicate 32 0)).toArray) (F.e rfl) (sz24 rfl) (sz_eqb 32 rfl rfl) (all_oneCell_toArray (bcs_one _)) ?_
 clear F a; have Mo := M; clear M; intro a v F M hgr
 refine hK _ _ ?_
 clear hK K
 clear Mo hgr; try clear u
 replace M : Mm w v [⟨g3, (bcs (List.replicate 32 0)).toArray, 24⟩, ⟨g2, (bcs (mac [74, 101, 102, 101] [119, 104, 97, 116, 32, 100, 111, 32, 121, 97, 32, 119, 97, 110, 116, 32, 102, 111, 114, 32, 110, 111, 116, 104, 105, 110, 103, 63])).toArray, 24⟩, ⟨g1, (bcs (sha [97, 98, 99])).toArray, 24⟩] := M
 refine list_val F (wn rfl) rfl rfl (.int .i64 40) (ex_assign _ rfl _ (F.e rfl)) ?_; clear F a; intro a F
 refine wpList_nil ?_
 replace F : Fr 44 a [(0, .bool false), (1, .pointer (some ⟨g1, 0, none⟩)), (2, .pointer (some ⟨g2, 0, none⟩)), (4, .int .i64 40)] := F.keep ⟨rfl, rfl, rfl, rfl, trivial⟩
 refine then_n ?_
 refine wp_seq ?_
 refine wp_region_lit ?_
 refine list_val F (wn rfl) rfl rfl (.pointer (some ⟨g1, 0, none⟩)) (ex_ixa _ _ _ rfl 32 dj_ar_24_32 ⟨g1, 0, none⟩ (F.e rfl) .i64 _ rfl 0 rfl (by omega) ⟨g1, 0, none⟩ ((addr_add _ _ _).trans (by rw [Nat.zero_add]))) ?_; clear F a; intro a F
 refine list_val F (wn rfl) rfl rfl (bv ((sha [97, 98, 99]).getD 0 0)) (ex_load _ _ rfl _ (F.e rfl) _ (lv1 dj_one_5 (M.cell (i := 2) rfl (j := 0) (bcs_arr (by omega))))) ?_; clear F a; intro a F
 refine list_val F (wn rfl) rfl rfl (.bool true) (ex_eqlb _ _ _ _ rfl ((sha [97, 98, 99]).getD 0 0) 186 (F.e rfl) rfl true (decide_eq_true kA0)) ?_; clear F a; intro a F
 refine list_val F (wn rfl) rfl rfl (.bool true) (ex_move _ rfl _ (F.e rfl)) ?_; clear F a; intro a F
 refine list_val F (F.wants 21 true rfl (by kernel_rfl) rfl true rfl) rfl rfl (.pointer (some ⟨g1, 31, none⟩)) (ex_ixa _ _ _ rfl 32 dj_ar_24_32 ⟨g1, 0, none⟩ (F.e rfl) .i64 _ rfl 31 rfl (by omega) ⟨g1, 31, none⟩ ((addr_add _ _ _).trans (by rw [Nat.zero_add]))) ?_; clear F a; intro a F
 refine list_val F (F.wants 21 true rfl (by kernel_rfl) rfl true rfl) rfl rfl (bv ((sha [97, 98, 99]).getD 31 0)) (ex_load _ _ rfl _ (F.e rfl) _ (lv1 dj_one_5 (M.cell (i := 2) rfl (j := 31) (bcs_arr (by omega))))) ?_; clear F a; intro a F
 refine list_val F (F.wants 21 true rfl (by kernel_rfl) rfl true rfl) rfl rfl (.bool true) (ex_eqlb _ _ _ _ rfl ((sha [97, 98, 99]).getD 31 0) 173 (F.e rfl) rfl true (decide_eq_true kA31)) ?_; clear F a; intro a F
 refine list_val F (wn rfl) rfl rfl (.bool true) (ex_pick_t _ _ _ rfl (F.e rfl) _ (F.e rfl)) ?_; clear F a; intro a F
 refine list_val F (wn rfl) rfl rfl (.bool true) (ex_move _ rfl _ (F.e rfl)) ?_; clear F a; intro a F
 refine list_val F (F.wants 26 true rfl (by kernel_rfl) rfl true rfl) rfl rfl (.pointer (some ⟨g2, 0, none⟩)) (ex_ixa _ _ _ rfl 32 dj_ar_24_32 ⟨g2, 0, none⟩ (F.e rfl) .i64 _ rfl 0 rfl (by omega) ⟨g2, 0, none⟩ ((addr_add _ _ _).trans (by rw [Nat.zero_add]))) ?_; clear F a; intro a F
 refine list_val F (F.wants 26 true rfl (by kernel_rfl) rfl true rfl) rfl rfl (bv ((mac [74, 101, 102, 101] [119, 104, 97, 116, 32, 100, 111, 32, 121, 97, 32, 119, 97, 110, 116, 32, 102, 111, 114, 32, 110, 111, 116, 104, 105, 110, 103, 63]).getD 0 0)) (ex_load _ _ rfl _ (F.e rfl) _ (lv1 dj_one_5 (M.cell (i := 1) rfl (j := 0) (bcs_arr (by omega))))) ?_; clear F a; intro a F
 refine list_val F (F.wants 26 true rfl (by kernel_rfl) rfl true rfl) rfl rfl (.bool true) (ex_eqlb _ _ _ _ rfl ((mac [74, 101, 102, 101] [119, 104, 97, 116, 32, 100, 111, 32, 121, 97, 32, 119, 97, 110, 116, 32, 102, 111, 114, 32, 110, 111, 116, 104, 105, 110, 103, 63]).getD 0 0) 91 (F.e rfl) rfl true (decide_eq_true kM0)) ?_; clear F a; intro a F
 refine list_val F (wn rfl) rfl rfl (.bool true) (ex_pick_t _ _ _ rfl (F.e rfl) _ (F.e rfl)) ?_; clear F a; intro a F
 refine list_val F (wn rfl) rfl rfl (.bool true) (ex_move _ rfl _ (F.e rfl)) ?_; clear F a; intro a F
 refine list_val F (F.wants 31 true rfl (by kernel_rfl) rfl true rfl) rfl rfl (.pointer (some ⟨g2, 31, none⟩)) (ex_ixa _ _ _ rfl 32 dj_ar_24_32 ⟨g2, 0, none⟩ (F.e rfl) .i64 _ rfl 31 rfl (by omega) ⟨g2, 31, none⟩ ((addr_add _ _ _).trans (by rw [Nat.zero_add]))) ?_; clear F a; intro a F
 refine list_val F (F.wants 31 true rfl (by kernel_rfl) rfl true rfl) rfl rfl (bv ((mac [74, 101, 102, 101] [119, 104, 97, 116, 32, 100, 111, 32, 121, 97, 32, 119, 97, 110, 116, 32, 102, 111, 114, 32, 110, 111, 116, 104, 105, 110, 103, 63]).getD 31 0)) (ex_load _ _ rfl _ (F.e rfl) _ (lv1 dj_one_5 (M.cell (i := 1) rfl (j := 31) (bcs_arr (by omega))))) ?_; clear F a; intro a F
 refine list_val F (F.wants 31 true rfl (by kernel_rfl) rfl true rfl) rfl rfl (.bool true) (ex_eqlb _ _ _ _ rfl ((mac [74, 101, 102, 101] [119, 104, 97, 116, 32, 100, 111, 32, 121, 97, 32, 119, 97, 110, 116, 32, 102, 111, 114, 32, 110, 111, 116, 104, 105, 110, 103, 63]).getD 31 0) 67 (F.e rfl) rfl true (decide_eq_true kM31)) ?_; clear F a; intro a F
 refine list_val F (wn rfl) rfl rfl (.bool true) (ex_pick_t _ _ _ rfl (F.e rfl) _ (F.e rfl)) ?_; clear F a; intro a F
 refine list_val F (wn rfl) rfl rfl (.bool true) (ex_move _ rfl _ (F.e rfl)) ?_; clear F a; intro a F
 refine list_do (F.wants 36 true rfl (by kernel_rfl) rfl true rfl) (fun K hK => ?_)
 refine ow_call rfl rfl F 23 #[.slice none 0 0, .slice none 0 0] (ex_call 23 _ _ rfl rfl dj_ent_23 _ (map2 rfl rfl)) (same_any [] [] none none 0 0 0 0 _ (Rb.zero _ _) (Nat.le_refl _) (Rb.zero _ _) (Nat.le_refl _)) (fun e u hR => ?_)
 obtain ⟨he, hb⟩ := hR
 rw [decide_eq_true rfl] at he
 refine ⟨.bool true, he, ?_⟩; clear he F a; intro a F
 refine hK _ _ ?_
 clear hK K
 replace M := M.below hb; clear hb; try clear v
 refine list_val F (wn rfl) rfl rfl (.bool true) (ex_pick_t _ _ _ rfl (F.e rfl) _ (F.e rfl)) ?_; clear F a; intro a F
 refine list_val F (wn rfl) rfl rfl (.bool true) (ex_move _ rfl _ (F.e rfl)) ?_; clear F a; intro a F
 refine list_val F (F.wants 39 true rfl (by kernel_rfl) rfl true rfl) rfl rfl (.int .i64 40) (ex_move _ rfl _ (F.e rfl)) ?_; clear F a; intro a F
 refine list_do (F.wants 39 true rfl (by kernel_rfl) rfl true rfl) (fun K hK => ?_)
 refine ow_call rfl rfl F 26 #[.int .i64 40] (ex_call 26 _ _ rfl rfl dj_ent_26 _ (map1 (F.e rfl))) (num_any _ _) (fun e v hR => ?_)
 obtain ⟨he, hw⟩ := hR
 refine ⟨.int .i64 40, he, ?_⟩; clear he F a; intro a F
 obtain rfl := hw
 refine hK _ _ ?_
 clear hK K
 refine list_val F (F.wants 39 true rfl (by kernel_rfl) rfl true rfl) rfl rfl (.bool true) (ex_bin .eql _ _ _ _ rfl .i64 _ _ (F.e rfl) rfl _ (b_eql (by decide))) ?_; clear F a; intro a F
 refine list_val F (wn rfl) rfl rfl (.bool true) (ex_pick_t _ _ _ rfl (F.e rfl) _ (F.e rfl)) ?_; clear F a; intro a F
 refine list_val F (wn rfl) rfl rfl (.bool true) (ex_assign _ rfl _ (F.e rfl)) ?_; clear F a; intro a F
 refine wpList_nil ?_
 replace F : Fr 44 a [(0, .bool true), (1, .pointer (some ⟨g1, 0, none⟩)), (2, .pointer (some ⟨g2, 0, none⟩)), (4, .int .i64 40)] := F.keep ⟨rfl, rfl, rfl, rfl, trivial⟩
 refine then_n ?_
 refine wp_ret ?_
 exact ret_tmp F rfl rfl ⟨rfl, M.bel⟩
end Go.Proofs.YtkppipeadibfkaaDoor
