/-
  The laws of the states, the blocks and the rounds, walked.
-/
import Derived.Test.YtpojbjldboknmaaLa
namespace Go.Proofs.Ytpojbjldboknmaa.Lb
open Go.RowKit Go.Proofs.Ytpojbjldboknmaa.B Go.Proofs.Ytpojbjldboknmaa.E Go.Proofs.Ytpojbjldboknmaa.Ra Go.Proofs.Ytpojbjldboknmaa.Qa Go.Proofs.Ytpojbjldboknmaa.Qb Go.Proofs.Ytpojbjldboknmaa.Ro Go.Proofs.Ytpojbjldboknmaa.Ru Go.Proofs.Ytpojbjldboknmaa.Rd Go.Proofs.Ytpojbjldboknmaa.Pu Go.Proofs.Ytpojbjldboknmaa.Sa Go.Proofs.Ytpojbjldboknmaa.Sb Go.Proofs.Ytpojbjldboknmaa.Sc Go.Proofs.Ytpojbjldboknmaa.Sd Go.Proofs.Ytpojbjldboknmaa.Bk Go.Proofs.Ytpojbjldboknmaa.Bl Go.Proofs.Ytpojbjldboknmaa.Xp Go.Proofs.Ytpojbjldboknmaa.Xa Go.Proofs.Ytpojbjldboknmaa.Xb Go.Proofs.Ytpojbjldboknmaa.Sy Go.Proofs.Ytpojbjldboknmaa.La Go.Proofs.YtpojbjldboknmaaW.PrintWords

abbrev Gives (f : FuncId) (args : Array Value) (L : List Nat) (E : Int) : Prop := ∀ w : World, Calls Try.prog f args w fun e w' => e = .returned (.tuple #[.agg (ws L), .int .i64 E]) ∧ Below w.heap.size w w'
set_option maxHeartbeats 4000000 in
set_option maxRecDepth 100000 in
theorem matches_at (key nonce : ByteArray) (c : Int) (w : World) (L : List Nat) (hf : Fit L) (T : ByteArray) (E : Int) (h1 : Gives 9 #[.string key, .int .u32 c, .string nonce] L E) (h2 : Gives 10 #[.string key, .int .u32 c, .string nonce] L E)
    (h3 : Tells 11 #[.string key, .int .u32 c, .string nonce] T E) (h4 : Tells 12 #[.string key, .int .u32 c, .string nonce] T E) :
    Calls Try.prog 3 #[.string key, .int .u32 c, .string nonce] w fun e w' => e = .returned (.bool true) ∧ Below w.heap.size w w' := by
  have H1 := Lib.hid h1
  have H2 := Lib.hid h2
  have H3 := Lib.hid h3
  have H4 := Lib.hid h4
  clear h1 h2 h3 h4
  have hsz := size23 hf
  have heq : ∀ w, (binOp .eql 23 (.agg (ws L)) (.agg (ws L))).run Try.prog w = .ok (.bool true) w := fun w => by rw [eql_ws L L hf hf w]; simp
  have HE := Lib.hid heq
  clear heq
  go_enter Try.func3, Try.ntmps3
  go_wp2_with (first
    | (go_at_call 9; ((with_reducible refine (H1.out _).mono ?_); rintro e w1 ⟨rfl, hb1⟩))
    | ((with_reducible refine gate_store (t := 23) (p := 7) (v := .tmp 20) rfl ?_); refine wpList_store_row rfl 23 (.tmp 7) (.tmp 20) rfl w1.heap.size (ws L) rfl rfl 23 zs (Blk.new w1 23 zs) hsz (zs_fit hf) (ws_one _) ?_; change wpList _ _ _ _ _ ((w1.alloc (.cells zs 23)).setRow w1.heap.size (ws L)); have hs1 := setRow_st w1 hf; have hb2 := below_setRow (hb1.alloc hb1.size (.cells zs 23)) hb1.size (ws L); generalize (w1.alloc (.cells zs 23)).setRow w1.heap.size (ws L) = W1 at hs1 hb2 ⊢)
    | (go_at_call 10; ((with_reducible refine (H2.out _).mono ?_); rintro e w3 ⟨rfl, hb3⟩))
    | ((with_reducible refine gate_store (t := 23) (p := 9) (v := .tmp 27) rfl ?_); refine wpList_store_row rfl 23 (.tmp 9) (.tmp 27) rfl w3.heap.size (ws L) rfl rfl 23 zs (Blk.new w3 23 zs) hsz (zs_fit hf) (ws_one _) ?_; change wpList _ _ _ _ _ ((w3.alloc (.cells zs 23)).setRow w3.heap.size (ws L)); have hs3 := setRow_st w3 hf; have hl3 := (hs1.below hb3 hs1.lt).lt; have hs4 : St ((w3.alloc (.cells zs 23)).setRow w3.heap.size (ws L)) w1.heap.size L := ⟨hf, (setRow_other _ _ _ _ (by omega)).trans ((hs1.below hb3 hs1.lt).2.alloc _)⟩; have hb4 := below_setRow ((below_next hb2 hb3).alloc (below_next hb2 hb3).size (.cells zs 23)) (below_next hb2 hb3).size (ws L); generalize (w3.alloc (.cells zs 23)).setRow w3.heap.size (ws L) = W3 at hs3 hs4 hb4 ⊢)
    | (go_at_call 11; ((with_reducible refine (H3.out _).mono ?_); rintro e w5 ⟨rfl, hb5⟩; have hs5 := hs3.below hb5 hs3.lt; have hs6 := hs4.below hb5 hs4.lt; have hb6 := below_next hb4 hb5))
    | (go_at_call 12; ((with_reducible refine (H4.out _).mono ?_); rintro e w7 ⟨rfl, hb7⟩; have hs7 := hs5.below hb7 hs5.lt; have hs8 := hs6.below hb7 hs6.lt; have hb8 := below_next hb6 hb7))
    | (go_at_call 13; ((with_reducible refine (sanity_walk _).mono ?_); rintro e w9 ⟨rfl, hb9⟩; have hs9 := hs7.below hb9 hs7.lt; have hs10 := hs8.below hb9 hs8.lt; have hb10 := below_next hb8 hb9))
    | ((with_reducible refine gate_dst (N := 45) rfl ?_); refine gate_guard (by rfl) ?_; refine wpList_load_row rfl 23 (.tmp 7) rfl w1.heap.size rfl 23 _ (0, 0) _ hs10.2 Try.underlying23 rfl hsz ?_)
    | ((with_reducible refine gate_dst (N := 46) rfl ?_); refine gate_guard (by rfl) ?_; refine wpList_load_row rfl 23 (.tmp 9) rfl w3.heap.size rfl 23 _ (0, 0) _ hs9.2 Try.underlying23 rfl hsz ?_)
    | ((with_reducible refine gate_dst (N := 47) rfl ?_); refine gate_guard (by rfl) ?_; refine wpList_bin_agg rfl .eql 23 23 (.tmp 45) (.tmp 46) (ws L) (ws L) (.bool true) rfl rfl rfl (by kernel_rfl) HE.out ?_))
  go_ret
  exact ⟨by simp, hb10⟩
theorem blk_yes {key nonce : ByteArray} (c : Nat) (hc : c < 4294967296) (h : ok key nonce) : Tells 11 #[.string key, .int .u32 (c : Int), .string nonce] (blkS key nonce c) 0 := fun w => block_blk key nonce c w hc h
theorem rblk_yes {key nonce : ByteArray} (c : Nat) (hc : c < 4294967296) (h : ok key nonce) : Tells 12 #[.string key, .int .u32 (c : Int), .string nonce] (blkS key nonce c) 0 := fun w => ref_block_blk key nonce c w hc h
theorem matches_int (key nonce : ByteArray) (a : Int) (w : World) (h : (Lit.int .u32 a).wf = true) : Calls Try.prog 3 #[.string key, .int .u32 a, .string nonce] w fun e w' => e = .returned (.bool true) ∧ Below w.heap.size w w' := by
  obtain ⟨c, rfl, hc⟩ := u32_nat h
  by_cases ho : ok key nonce
  · exact matches_at key nonce c w _ (st_fit key c nonce hc) _ 0 (fun w => state_walk key nonce c w hc ho) (fun w => ref_state_walk key nonce c w hc ho) (blk_yes c hc ho) (rblk_yes c hc ho)
  · exact matches_at key nonce c w _ noughts_fit _ 1 (fun w => state_none key nonce c w ho) (fun w => ref_state_none key nonce c w ho) (fun w => block_none key nonce c w ho) (fun w => ref_block_none key nonce c w ho)
abbrev Turns (f : FuncId) (L T : List Nat) : Prop := ∀ w : World, Calls Try.prog f #[.agg (ws L)] w fun e w' => e = .returned (.agg (ws T)) ∧ Below w.heap.size w w'
set_option maxHeartbeats 4000000 in
set_option maxRecDepth 100000 in
theorem rounds_at (L T : List Nat) (hL : Fit L) (hT : Fit T) (w : World) (h1 : Turns 14 L T) (h2 : Turns 15 L T) (h3 : Turns 16 T L) :
    Calls Try.prog 4 #[.agg (ws L)] w fun e w' => e = .returned (.bool true) ∧ Below w.heap.size w w' := by
  have H1 := Lib.hid h1
  have hszL := size23 hL
  have hszT := size23 hT
  have hb0 : St (w.alloc (.cells (ws L) 23)) w.heap.size L := ⟨hL, Blk.new w 23 (ws L)⟩
  have hb1 : Below w.heap.size w (w.alloc (.cells (ws L) 23)) := (Below.refl _ _).alloc (Nat.le_refl _) _
  have eL : ∀ w, (binOp .eql 23 (.agg (ws L)) (.agg (ws L))).run Try.prog w = .ok (.bool true) w := fun w => by rw [eql_ws L L hL hL w]; simp
  have eT : ∀ w, (binOp .eql 23 (.agg (ws T)) (.agg (ws T))).run Try.prog w = .ok (.bool true) w := fun w => by rw [eql_ws T T hT hT w]; simp
  have EL := Lib.hid eL
  have ET := Lib.hid eT
  clear eL eT h1
  go_enter Try.func4, Try.ntmps4
  go_wp2_with (first
    | ((with_reducible refine gate_dst (N := 4) rfl ?_); refine wpList_load_row rfl 23 (.tmp 1) rfl w.heap.size rfl 23 (ws L) (0, 0) _ hb0.2 Try.underlying23 rfl hszL ?_; change wpList _ _ _ _ _ (w.alloc (.cells (ws L) 23)); generalize w.alloc (.cells (ws L) 23) = W0 at hb0 hb1 ⊢)
    | (go_at_call 14; ((with_reducible refine (H1.out _).mono ?_); rintro e w3 ⟨rfl, hb3⟩))
    | ((with_reducible refine gate_store (t := 23) (p := 3) (v := .tmp 5) rfl ?_); refine wpList_store_row rfl 23 (.tmp 3) (.tmp 5) rfl w3.heap.size (ws T) rfl rfl 23 zs (Blk.new w3 23 zs) hszT (zs_fit hT) (ws_one _) ?_; change wpList _ _ _ _ _ ((w3.alloc (.cells zs 23)).setRow w3.heap.size (ws T)); have hs3 := setRow_st w3 hT; have hl3 := (hb0.below hb3 hb0.lt).lt; have hs4 : St ((w3.alloc (.cells zs 23)).setRow w3.heap.size (ws T)) w.heap.size L := ⟨hL, (setRow_other _ _ _ _ (by omega)).trans ((hb0.below hb3 hb0.lt).2.alloc _)⟩; have hb4 := below_setRow ((below_next hb1 hb3).alloc (below_next hb1 hb3).size (.cells zs 23)) (below_next hb1 hb3).size (ws T); generalize (w3.alloc (.cells zs 23)).setRow w3.heap.size (ws T) = W3 at hs3 hs4 hb4 ⊢))
  obtain ⟨I, W, hne, hC, hW⟩ := class_of (fun w' => St w' w.heap.size L ∧ St w' w3.heap.size T ∧ Below w.heap.size w w') W3 ⟨hs4, hs3, hb4⟩
  have rL : ∀ i, (W i).heap[w.heap.size]? = some (.cells (ws L) 23 (0, 0)) := fun i => (hC i).1.2
  have rT : ∀ i, (W i).heap[w3.heap.size]? = some (.cells (ws T) 23 (0, 0)) := fun i => (hC i).2.1.2
  have keep : ∀ i w'', Below (W i).heap.size (W i) w'' → ∃ j, w'' = W j := fun i w'' h => hW _ ⟨(hC i).1.below h (hC i).1.lt, (hC i).2.1.below h (hC i).2.1.lt, below_next (hC i).2.2 h⟩
  have c13 : ∀ i, Calls Try.prog 13 #[] (W i) fun e w'' => e = .returned (.bool true) ∧ ∃ j, w'' = W j := fun i => (sanity_walk (W i)).mono fun e w'' h => ⟨h.1, keep i _ h.2⟩
  have c15 : ∀ i, Calls Try.prog 15 #[.agg (ws L)] (W i) fun e w'' => e = .returned (.agg (ws T)) ∧ ∃ j, w'' = W j := fun i => (h2 (W i)).mono fun e w'' h => ⟨h.1, keep i _ h.2⟩
  have c16 : ∀ i, Calls Try.prog 16 #[.agg (ws T)] (W i) fun e w'' => e = .returned (.agg (ws L)) ∧ ∃ j, w'' = W j := fun i => (h3 (W i)).mono fun e w'' h => ⟨h.1, keep i _ h.2⟩
  refine wp_region_class _ I W hne hC hW (by kernel_rfl) (by kernel_rfl) ⟨hs4.drewN 1, hs3.drewN 1, below_drewN hb4 1⟩ ?_
  have HC := Lib.hid hC
  have HL := Lib.hid rL
  have HT := Lib.hid rT
  have C13 := Lib.hid c13
  have C15 := Lib.hid c15
  have C16 := Lib.hid c16
  clear hC rL rT c13 c15 c16 keep hW h2 h3 hs3 hs4 hb4 hb0 hb1
  simp only [Act.put]
  go_big_quiet_want
  refine quiet_call (f := 13) (args := #[]) (v := .bool true) (fun _ => by first | rfl | (go_simp; done)) C13.out ?_
  go_big_quiet_on
  simp only [Act.put, List.setIfInBounds_toArray, List.set_cons_zero, List.set_cons_succ]
  go_big_quiet_step (fail)
  go_big_quiet_want
  refine quiet_row 23 (.tmp 3) rfl w3.heap.size rfl 23 (ws T) (0, 0) _ HT.out Try.underlying23 rfl hszT ?_
  go_big_quiet_on
  simp only [Act.put, List.setIfInBounds_toArray, List.set_cons_zero, List.set_cons_succ]
  go_big_quiet_want
  refine quiet_row 23 (.tmp 1) rfl w.heap.size rfl 23 (ws L) (0, 0) _ HL.out Try.underlying23 rfl hszL ?_
  go_big_quiet_on
  simp only [Act.put, List.setIfInBounds_toArray, List.set_cons_zero, List.set_cons_succ]
  go_big_quiet_want
  refine quiet_call (f := 15) (args := #[.agg (ws L)]) (v := .agg (ws T)) (fun _ => by first | rfl | (go_simp; done)) C15.out ?_
  go_big_quiet_on
  simp only [Act.put, List.setIfInBounds_toArray, List.set_cons_zero, List.set_cons_succ]
  go_big_quiet_want
  refine quiet_bin_agg .eql 23 23 (.tmp 8) (.tmp 10) (ws T) (ws T) (.bool true) rfl rfl rfl (by kernel_rfl) ET.out ?_
  go_big_quiet_on
  simp only [Act.put, List.setIfInBounds_toArray, List.set_cons_zero, List.set_cons_succ]
  go_big_quiet_step (fail)
  go_big_quiet_step (fail)
  go_big_quiet_want
  refine quiet_row 23 (.tmp 3) rfl w3.heap.size rfl 23 (ws T) (0, 0) _ HT.out Try.underlying23 rfl hszT ?_
  go_big_quiet_on
  simp only [Act.put, List.setIfInBounds_toArray, List.set_cons_zero, List.set_cons_succ]
  go_big_quiet_want
  refine quiet_call (f := 16) (args := #[.agg (ws T)]) (v := .agg (ws L)) (fun _ => by first | rfl | (go_simp; done)) C16.out ?_
  go_big_quiet_on
  simp only [Act.put, List.setIfInBounds_toArray, List.set_cons_zero, List.set_cons_succ]
  go_big_quiet_want
  refine quiet_row 23 (.tmp 1) rfl w.heap.size rfl 23 (ws L) (0, 0) _ HL.out Try.underlying23 rfl hszL ?_
  go_big_quiet_on
  simp only [Act.put, List.setIfInBounds_toArray, List.set_cons_zero, List.set_cons_succ]
  go_big_quiet_want
  refine quiet_bin_agg .eql 23 23 (.tmp 15) (.tmp 16) (ws L) (ws L) (.bool true) rfl rfl rfl (by kernel_rfl) EL.out ?_
  go_big_quiet_on
  simp only [Act.put, List.setIfInBounds_toArray, List.set_cons_zero, List.set_cons_succ]
  go_big_quiet_step (fail)
  go_big_quiet_step (fail)
  refine wpQuiet_nil ?_
  intro i
  go_wp2
  go_ret
  exact ⟨rfl, (HC.out i).2.2⟩
end Go.Proofs.Ytpojbjldboknmaa.Lb
