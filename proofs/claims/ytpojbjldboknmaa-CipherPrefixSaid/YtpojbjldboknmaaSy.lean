/-
  The example of the documentation: the walk of sanity: it returns true.
-/
import Derived.Test.YtpojbjldboknmaaSn
import Derived.Test.YtpojbjldboknmaaE
import Derived.Test.YtpojbjldboknmaaXb
namespace Go.Proofs.Ytpojbjldboknmaa.Sy
open Go.RowKit Go.Proofs.Ytpojbjldboknmaa.B Go.Proofs.Ytpojbjldboknmaa.E Go.Proofs.Ytpojbjldboknmaa.Ra Go.Proofs.Ytpojbjldboknmaa.Qa Go.Proofs.Ytpojbjldboknmaa.Qb Go.Proofs.Ytpojbjldboknmaa.Ro Go.Proofs.Ytpojbjldboknmaa.Rd Go.Proofs.Ytpojbjldboknmaa.Sa Go.Proofs.Ytpojbjldboknmaa.Sb Go.Proofs.Ytpojbjldboknmaa.Sc Go.Proofs.Ytpojbjldboknmaa.Sd Go.Proofs.Ytpojbjldboknmaa.Bk Go.Proofs.Ytpojbjldboknmaa.Bl Go.Proofs.Ytpojbjldboknmaa.Xp Go.Proofs.Ytpojbjldboknmaa.Xa Go.Proofs.Ytpojbjldboknmaa.Xb Go.Proofs.Ytpojbjldboknmaa.Sn Go.Proofs.YtpojbjldboknmaaW.PrintWords Go.Proofs.YtpojbjldboknmaaW.PrintMore

theorem key_f : PCipherMatchesSpec.custodylaw03_Key.f 40 = some KEY := by decide +kernel
theorem key_call (w : World) : Calls Try.prog 22 #[] w fun e w' => e = .returned (.string KEY) ∧ Below w.heap.size w w' := PCipherMatchesSpec.custodylaw03_Key.calls 40 KEY w key_f
theorem blk_call (w : World) : Calls Try.prog 11 #[.string KEY, .int .u32 1, .string ⟨#[0, 0, 0, 9, 0, 0, 0, 74, 0, 0, 0, 0]⟩] w fun e w' => e = .returned (.tuple #[.string BLK, .int .i64 0]) ∧ Below w.heap.size w w' := by
  have h := block_blk KEY NON 1 w (by decide) ok_key
  rw [blk_is] at h
  exact h
theorem two_call (w : World) : Calls Try.prog 17 #[.string KEY, .int .u32 1, .string ⟨#[0, 0, 0, 9, 0, 0, 0, 74, 0, 0, 0, 0]⟩, .string ⟨#[0, 0]⟩] w fun e w' => e = .returned (.tuple #[.string ⟨#[16, 241]⟩, .int .i64 0]) ∧ Below w.heap.size w w' := by
  have h := xor_walk KEY NON TWO 1 w (by decide) ok_key (by decide)
  rw [two_is] at h
  exact h
theorem short_not : ¬ ok ⟨#[115, 104, 111, 114, 116]⟩ ⟨#[0, 0, 0, 9, 0, 0, 0, 74, 0, 0, 0, 0]⟩ := fun h => absurd h.1 (by decide)
theorem short_call (w : World) : Calls Try.prog 11 #[.string ⟨#[115, 104, 111, 114, 116]⟩, .int .u32 1, .string ⟨#[0, 0, 0, 9, 0, 0, 0, 74, 0, 0, 0, 0]⟩] w fun e w' => e = .returned (.tuple #[.string ⟨#[]⟩, .int .i64 1]) ∧ Below w.heap.size w w' := block_none _ _ 1 w short_not
theorem state_call (w : World) : Calls Try.prog 9 #[.string KEY, .int .u32 7, .string ⟨#[0, 0, 0, 9, 0, 0, 0, 74, 0, 0, 0, 0]⟩] w fun e w' => e = .returned (.tuple #[.agg (ws b0), .int .i64 0]) ∧ Below w.heap.size w w' := by
  have h := state_walk KEY NON 7 w (by decide) ok_key
  rw [st_b] at h
  exact h
theorem b0_fit : Fit b0 := by
  have h := st_fit KEY 7 NON (by decide)
  rwa [st_b] at h
theorem b10_fit : Fit b10 := by
  have h := dn_fit b0_fit 10
  rwa [dn_b] at h
theorem round_call (w : World) : Calls Try.prog 14 #[.agg (ws b0)] w fun e w' => e = .returned (.agg (ws b10)) ∧ Below w.heap.size w w' := by
  have h := rounds_walk b0 w b0_fit
  rw [dn_b] at h
  exact h
theorem ws_ints (l : List Nat) : ws l = ints .u32 (l.map fun n : Nat => ((n : Nat) : Int)) := by unfold ws ints; simp
theorem cast_inj (l m : List Nat) : (l.map fun n : Nat => ((n : Nat) : Int)) = (m.map fun n : Nat => ((n : Nat) : Int)) ↔ l = m := by
  constructor
  · intro h
    exact (List.map_inj_right (fun a b h => Int.ofNat.inj h)).1 h
  · rintro rfl; rfl
theorem info22 : ∃ i, Try.prog.info? 22 = some i := by
  have hi : (Try.prog.info? 22).map (fun i => (i.zero, i.size, i.bytes)) = some (some (.int .u32 0), 1, 4) := by kernel_rfl
  obtain ⟨i0, h0, _⟩ := Option.map_eq_some_iff.1 hi
  exact ⟨i0, h0⟩
theorem under22 : Try.prog.underlying 22 = some (.int .u32) := by kernel_rfl
theorem cells22 : Try.prog.cellsOf 22 = 1 := by kernel_rfl
theorem eql_ws (l m : List Nat) (hl : Fit l) (hm : Fit m) (w : World) : (binOp .eql 23 (.agg (ws l)) (.agg (ws m))).run Try.prog w = .ok (.bool (decide (l = m))) w := by
  obtain ⟨i, hi⟩ := info22
  rw [ws_ints, ws_ints, eql_ints (n := 16) Try.underlying23 hi cells22 under22 _ _ (by simp [hl.1]) (by simp [hm.1])]
  simp only [cast_inj]
theorem neq_ws (l m : List Nat) (hl : Fit l) (hm : Fit m) (w : World) : (binOp .neq 23 (.agg (ws l)) (.agg (ws m))).run Try.prog w = .ok (.bool (!decide (l = m))) w := by
  obtain ⟨i, hi⟩ := info22
  rw [ws_ints, ws_ints, neq_ints (n := 16) Try.underlying23 hi cells22 under22 _ _ (by simp [hl.1]) (by simp [hm.1])]
  simp only [cast_inj]
theorem neq_b (w : World) : (binOp .neq 23 (.agg (ws b10)) (.agg (ws b0))).run Try.prog w = .ok (.bool true) w := by
  rw [neq_ws _ _ b10_fit b0_fit, decide_eq_false turned]
  rfl
set_option maxHeartbeats 8000000 in
set_option maxRecDepth 100000 in
theorem sanity_walk (w : World) : Calls Try.prog 13 #[] w fun e w' => e = .returned (.bool true) ∧ Below w.heap.size w w' := by
  have hsz := size23 b0_fit
  go_enter Try.func13, Try.ntmps13
  have hb : Below w.heap.size w w := Below.refl _ _
  go_wp2_with (first
    | (go_at_call 22; ((with_reducible refine (key_call _).mono ?_); rintro e w1 ⟨rfl, hb1⟩; replace hb := below_next hb hb1; clear hb1))
    | (go_at_call 11; ((with_reducible refine (blk_call _).mono ?_); rintro e w1 ⟨rfl, hb1⟩; replace hb := below_next hb hb1; clear hb1))
    | (go_at_call 11; ((with_reducible refine (short_call _).mono ?_); rintro e w1 ⟨rfl, hb1⟩; replace hb := below_next hb hb1; clear hb1))
    | (go_at_call 17; ((with_reducible refine (two_call _).mono ?_); rintro e w1 ⟨rfl, hb1⟩; replace hb := below_next hb hb1; clear hb1))
    | (go_at_call 9; ((with_reducible refine (state_call _).mono ?_); rintro e w1 ⟨rfl, hb1⟩; replace hb := below_next hb hb1; clear hb1; have hst := setRow_st w1 b0_fit; have hbs := below_setRow (hb.alloc hb.size (.cells zs 23)) hb.size (ws b0)))
    | ((with_reducible refine gate_store (t := 23) (p := 8) (v := .tmp 31) rfl ?_); refine wpList_store_row rfl 23 (.tmp 8) (.tmp 31) rfl w1.heap.size (ws b0) rfl rfl 23 zs (Blk.new w1 23 zs) hsz (zs_fit b0_fit) (ws_one _) ?_; change wpList _ _ _ _ _ ((w1.alloc (.cells zs 23)).setRow w1.heap.size (ws b0)); generalize (w1.alloc (.cells zs 23)).setRow w1.heap.size (ws b0) = W1 at hst hbs ⊢))
  obtain ⟨I, W, hne, hC, hW⟩ := class_of (fun w' => St w' w1.heap.size b0 ∧ Below w.heap.size w w') W1 ⟨hst, hbs⟩
  have hrow : ∀ i, (W i).heap[w1.heap.size]? = some (.cells (ws b0) 23 (0, 0)) := fun i => (hC i).1.2
  have k0 : ∀ i, (W i).cell? ⟨w1.heap.size, 0, none⟩ = some (.int .u32 1634760805) := fun i => (hC i).1.cell (i := 0) (by omega)
  have k4 : ∀ i, (W i).cell? ⟨w1.heap.size, 4, none⟩ = some (.int .u32 50462976) := fun i => (hC i).1.cell (i := 4) (by omega)
  have k12 : ∀ i, (W i).cell? ⟨w1.heap.size, 12, none⟩ = some (.int .u32 7) := fun i => (hC i).1.cell (i := 12) (by omega)
  have k13 : ∀ i, (W i).cell? ⟨w1.heap.size, 13, none⟩ = some (.int .u32 150994944) := fun i => (hC i).1.cell (i := 13) (by omega)
  have hB : BLK.size = 64 := by decide
  have hr : ∀ i, Calls Try.prog 14 #[.agg (ws b0)] (W i) fun e w'' => e = .returned (.agg (ws b10)) ∧ ∃ j, w'' = W j := fun i => (round_call (W i)).mono fun e w'' h => ⟨h.1, hW _ ⟨(hC i).1.below h.2 (hC i).1.lt, below_next (hC i).2 h.2⟩⟩
  refine wp_region_class _ I W hne hC hW (by kernel_rfl) (by kernel_rfl) ⟨hst.drewN 1, below_drewN hbs 1⟩ ?_
  have HR := Lib.hid hr
  have HC := Lib.hid hC
  have HW := Lib.hid hW
  have HRW := Lib.hid hrow
  clear hr hC hW hrow hst hbs hb
  have hx4 := cut_head
  have hx60 := cut_tail
  iterate 54 go_big_quiet_step (fail)
  clear k0 k4 k12 k13 hx4 hx60 hB
  go_big_quiet_want
  refine quiet_row 23 (.tmp 8) rfl w1.heap.size rfl 23 (ws b0) (0, 0) _ HRW.out Try.underlying23 rfl hsz ?_
  go_big_quiet_on
  trace_state
  simp only [Act.put, List.setIfInBounds_toArray, List.set_cons_zero, List.set_cons_succ]
  go_big_quiet_want
  refine quiet_call (f := 14) (args := #[.agg (ws b0)]) (v := .agg (ws b10)) (fun _ => by first | rfl | (go_simp; done) | (go_simp; rfl)) HR.out ?_
  go_big_quiet_on
  simp only [Act.put, List.setIfInBounds_toArray, List.set_cons_zero, List.set_cons_succ]
  go_big_quiet_want
  refine quiet_row 23 (.tmp 8) rfl w1.heap.size rfl 23 (ws b0) (0, 0) _ HRW.out Try.underlying23 rfl hsz ?_
  go_big_quiet_on
  simp only [Act.put, List.setIfInBounds_toArray, List.set_cons_zero, List.set_cons_succ]
  go_big_quiet_want
  refine quiet_bin_agg .neq 23 23 (.tmp 88) (.tmp 89) (ws b10) (ws b0) (.bool true) rfl rfl rfl (by kernel_rfl) neq_b ?_
  go_big_quiet_on
  simp only [Act.put, List.setIfInBounds_toArray, List.set_cons_zero, List.set_cons_succ]
  repeat go_big_quiet_step (fail)
  refine wpQuiet_nil ?_
  intro i
  go_wp2
  go_ret
  exact ⟨rfl, (HC.out i).2⟩
end Go.Proofs.Ytpojbjldboknmaa.Sy
