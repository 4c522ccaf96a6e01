/-
  The rounds of the code: the walk.
-/
import Derived.Test.YtpojbjldboknmaaRu
namespace Go.Proofs.Ytpojbjldboknmaa.Rd
open Go.RowKit Go.Proofs.Ytpojbjldboknmaa.B Go.Proofs.Ytpojbjldboknmaa.Ra Go.Proofs.Ytpojbjldboknmaa.Qa Go.Proofs.Ytpojbjldboknmaa.Qb Go.Proofs.Ytpojbjldboknmaa.Ro Go.Proofs.YtpojbjldboknmaaW.PrintWords

set_option maxHeartbeats 8000000 in
set_option maxRecDepth 100000 in
theorem rounds_walk (l : List Nat) (w : World) (hl : Fit l) :
    Calls Try.prog 14 #[.agg (ws l)] w fun e w' => e = .returned (.agg (ws (dn l 10))) ∧ Below w.heap.size w w' := by
  have h : St ((w.alloc (.cells (ws l) 23)).alloc (.cells zs 23)) w.heap.size l := ⟨hl, (Blk.new w 23 (ws l)).alloc _⟩
  have hz : Blk ((w.alloc (.cells (ws l) 23)).alloc (.cells zs 23)) (w.heap.size + 1) 23 zs := heap_alloc2_new w _ _
  have h0 : Below w.heap.size w ((w.alloc (.cells (ws l) 23)).alloc (.cells zs 23)) := ((Below.refl _ _).alloc (Nat.le_refl _) _).alloc (by show w.heap.size ≤ (w.heap.push _).size; simp) _
  go_enter Try.func14, Try.ntmps14
  go_wp2_with fail
  go_loopw [5] (fun v5 wr => ∃ i : Nat, i ≤ 10 ∧ v5 = .int .i64 (i : Int) ∧ St wr w.heap.size (dn l i) ∧ Blk wr (w.heap.size + 1) 23 zs ∧ Below w.heap.size w wr) (fun v5 _ => 10 - (intOf v5).toNat)
  case atStart => exact ⟨0, by omega, rfl, h, hz, h0⟩
  case round =>
    obtain ⟨i, hi, rfl, hw, hz, hb⟩ := hrel
    by_cases hlt : i < 10
    · have zi : (i : Int) < 10 := by omega
      go_wp2_with fail
      go_loopw [7] (fun v7 wr => ∃ k : Nat, k ≤ 4 ∧ v7 = .int .i64 (k : Int) ∧ St wr w.heap.size (inr (dn l i) k) ∧ Blk wr (w.heap.size + 1) 23 zs ∧ Below w.heap.size w wr) (fun v7 _ => 4 - (intOf v7).toNat)
      case atStart => exact ⟨0, by omega, rfl, hw, hz, hb⟩
      case round =>
        clear hw hz hb
        obtain ⟨k, hk, rfl, hw, hz, hb⟩ := hrel
        by_cases hlk : k < 4
        · have hc : k = 0 ∨ k = 1 ∨ k = 2 ∨ k = 3 := by omega
          clear hlk hk
          rcases hc with rfl | rfl | rfl | rfl
          · go_wp2
            refine Q.wp_quiet_tail 11 (by kernel_rfl) (by kernel_rfl) ?_
            simp only [List.take_succ_cons, List.take_zero, List.drop_succ_cons, List.drop_zero]
            repeat go_big_quiet_step (fail)
            refine wpQuiet_nil ?_
            intro _ hw'
            obtain ⟨m, rfl⟩ := hw'
            go_wp2_with (first | (go_at_call 23; with_reducible refine (quarter_walk w.heap.size 0 4 8 12 (inr (dn l i) 0) _ (hw.drewN m) (by omega) (by omega) (by omega) (by omega) w.heap.size (Nat.le_refl _) (w.heap.size + 1) zs (by omega) (hz.drewN m)).mono ?_; rintro e w2 ⟨rfl, hw2, hb2, hz2⟩))
            go_roundw
            case rel => exact ⟨1, by omega, by go_num, hw2, hz2, (below_drewN hb m).trans hb2⟩
            case measure => simp [intOf]
          · go_wp2
            refine Q.wp_quiet_tail 11 (by kernel_rfl) (by kernel_rfl) ?_
            simp only [List.take_succ_cons, List.take_zero, List.drop_succ_cons, List.drop_zero]
            repeat go_big_quiet_step (fail)
            refine wpQuiet_nil ?_
            intro _ hw'
            obtain ⟨m, rfl⟩ := hw'
            go_wp2_with (first | (go_at_call 23; with_reducible refine (quarter_walk w.heap.size 1 5 9 13 (inr (dn l i) 1) _ (hw.drewN m) (by omega) (by omega) (by omega) (by omega) w.heap.size (Nat.le_refl _) (w.heap.size + 1) zs (by omega) (hz.drewN m)).mono ?_; rintro e w2 ⟨rfl, hw2, hb2, hz2⟩))
            go_roundw
            case rel => exact ⟨2, by omega, by go_num, hw2, hz2, (below_drewN hb m).trans hb2⟩
            case measure => simp [intOf]
          · go_wp2
            refine Q.wp_quiet_tail 11 (by kernel_rfl) (by kernel_rfl) ?_
            simp only [List.take_succ_cons, List.take_zero, List.drop_succ_cons, List.drop_zero]
            repeat go_big_quiet_step (fail)
            refine wpQuiet_nil ?_
            intro _ hw'
            obtain ⟨m, rfl⟩ := hw'
            go_wp2_with (first | (go_at_call 23; with_reducible refine (quarter_walk w.heap.size 2 6 10 14 (inr (dn l i) 2) _ (hw.drewN m) (by omega) (by omega) (by omega) (by omega) w.heap.size (Nat.le_refl _) (w.heap.size + 1) zs (by omega) (hz.drewN m)).mono ?_; rintro e w2 ⟨rfl, hw2, hb2, hz2⟩))
            go_roundw
            case rel => exact ⟨3, by omega, by go_num, hw2, hz2, (below_drewN hb m).trans hb2⟩
            case measure => simp [intOf]
          · go_wp2
            refine Q.wp_quiet_tail 11 (by kernel_rfl) (by kernel_rfl) ?_
            simp only [List.take_succ_cons, List.take_zero, List.drop_succ_cons, List.drop_zero]
            repeat go_big_quiet_step (fail)
            refine wpQuiet_nil ?_
            intro _ hw'
            obtain ⟨m, rfl⟩ := hw'
            go_wp2_with (first | (go_at_call 23; with_reducible refine (quarter_walk w.heap.size 3 7 11 15 (inr (dn l i) 3) _ (hw.drewN m) (by omega) (by omega) (by omega) (by omega) w.heap.size (Nat.le_refl _) (w.heap.size + 1) zs (by omega) (hz.drewN m)).mono ?_; rintro e w2 ⟨rfl, hw2, hb2, hz2⟩))
            go_roundw
            case rel => exact ⟨4, by omega, by go_num, hw2, hz2, (below_drewN hb m).trans hb2⟩
            case measure => simp [intOf]
        · obtain rfl : k = 4 := by omega
          clear hlk hk
          go_wp2_with fail
          go_loopw [23] (fun v23 wr => ∃ k : Nat, k ≤ 4 ∧ v23 = .int .i64 (k : Int) ∧ St wr w.heap.size (inr (dn l i) (4 + k)) ∧ Blk wr (w.heap.size + 1) 23 zs ∧ Below w.heap.size w wr) (fun v23 _ => 4 - (intOf v23).toNat)
          case atStart => exact ⟨0, by omega, rfl, hw, hz, hb⟩
          case round =>
            clear hw hz hb
            obtain ⟨k, hk, rfl, hw, hz, hb⟩ := hrel
            by_cases hlk : k < 4
            · have hc : k = 0 ∨ k = 1 ∨ k = 2 ∨ k = 3 := by omega
              clear hlk hk
              rcases hc with rfl | rfl | rfl | rfl
              · go_wp2
                refine Q.wp_quiet_tail 17 (by kernel_rfl) (by kernel_rfl) ?_
                simp only [List.take_succ_cons, List.take_zero, List.drop_succ_cons, List.drop_zero]
                repeat go_big_quiet_step (fail)
                refine wpQuiet_nil ?_
                intro _ hw'
                obtain ⟨m, rfl⟩ := hw'
                go_wp2_with (first | (go_at_call 23; with_reducible refine (quarter_walk w.heap.size 0 5 10 15 (inr (dn l i) 4) _ (hw.drewN m) (by omega) (by omega) (by omega) (by omega) w.heap.size (Nat.le_refl _) (w.heap.size + 1) zs (by omega) (hz.drewN m)).mono ?_; rintro e w2 ⟨rfl, hw2, hb2, hz2⟩))
                refine ⟨?_, ?measure⟩
                case measure => simp [intOf]
                repeat apply Exists.intro
                exact ⟨⟨1, by omega, rfl, hw2, hz2, (below_drewN hb m).trans hb2⟩, rfl⟩
              · go_wp2
                refine Q.wp_quiet_tail 17 (by kernel_rfl) (by kernel_rfl) ?_
                simp only [List.take_succ_cons, List.take_zero, List.drop_succ_cons, List.drop_zero]
                repeat go_big_quiet_step (fail)
                refine wpQuiet_nil ?_
                intro _ hw'
                obtain ⟨m, rfl⟩ := hw'
                go_wp2_with (first | (go_at_call 23; with_reducible refine (quarter_walk w.heap.size 1 6 11 12 (inr (dn l i) 5) _ (hw.drewN m) (by omega) (by omega) (by omega) (by omega) w.heap.size (Nat.le_refl _) (w.heap.size + 1) zs (by omega) (hz.drewN m)).mono ?_; rintro e w2 ⟨rfl, hw2, hb2, hz2⟩))
                refine ⟨?_, ?measure⟩
                case measure => simp [intOf]
                repeat apply Exists.intro
                exact ⟨⟨2, by omega, rfl, hw2, hz2, (below_drewN hb m).trans hb2⟩, rfl⟩
              · go_wp2
                refine Q.wp_quiet_tail 17 (by kernel_rfl) (by kernel_rfl) ?_
                simp only [List.take_succ_cons, List.take_zero, List.drop_succ_cons, List.drop_zero]
                repeat go_big_quiet_step (fail)
                refine wpQuiet_nil ?_
                intro _ hw'
                obtain ⟨m, rfl⟩ := hw'
                go_wp2_with (first | (go_at_call 23; with_reducible refine (quarter_walk w.heap.size 2 7 8 13 (inr (dn l i) 6) _ (hw.drewN m) (by omega) (by omega) (by omega) (by omega) w.heap.size (Nat.le_refl _) (w.heap.size + 1) zs (by omega) (hz.drewN m)).mono ?_; rintro e w2 ⟨rfl, hw2, hb2, hz2⟩))
                refine ⟨?_, ?measure⟩
                case measure => simp [intOf]
                repeat apply Exists.intro
                exact ⟨⟨3, by omega, rfl, hw2, hz2, (below_drewN hb m).trans hb2⟩, rfl⟩
              · go_wp2
                refine Q.wp_quiet_tail 17 (by kernel_rfl) (by kernel_rfl) ?_
                simp only [List.take_succ_cons, List.take_zero, List.drop_succ_cons, List.drop_zero]
                repeat go_big_quiet_step (fail)
                refine wpQuiet_nil ?_
                intro _ hw'
                obtain ⟨m, rfl⟩ := hw'
                go_wp2_with (first | (go_at_call 23; with_reducible refine (quarter_walk w.heap.size 3 4 9 14 (inr (dn l i) 7) _ (hw.drewN m) (by omega) (by omega) (by omega) (by omega) w.heap.size (Nat.le_refl _) (w.heap.size + 1) zs (by omega) (hz.drewN m)).mono ?_; rintro e w2 ⟨rfl, hw2, hb2, hz2⟩))
                refine ⟨?_, ?measure⟩
                case measure => simp [intOf]
                repeat apply Exists.intro
                exact ⟨⟨4, by omega, rfl, hw2, hz2, (below_drewN hb m).trans hb2⟩, rfl⟩
            · obtain rfl : k = 4 := by omega
              clear hlk hk
              go_wp2_with fail
              go_roundw
              case rel => exact ⟨i + 1, by omega, by go_num, hw, hz, hb⟩
              case measure => simp [intOf]; omega
    · obtain rfl : i = 10 := by omega
      clear hlt hi
      have hsz : (Try.prog.info? 23).map (·.size) = some (ws (dn l 10)).size := by rw [ws_size, hw.1.1]; rfl
      go_wp2_with (first | (refine wpList_load_row rfl 23 (.tmp 1) rfl w.heap.size rfl 23 _ (0, 0) _ hw.2 Try.underlying23 rfl hsz ?_) | (refine wpList_store_row rfl 23 (.tmp 2) (.tmp 46) rfl (w.heap.size + 1) (ws (dn l 10)) rfl rfl 23 zs hz hsz (by rw [ws_size, hw.1.1]; rfl) (ws_one _) ?_))
      refine bodyPost_ret (results_cell_row rfl _ _ (w.heap.size + 1) 23 (ws (dn l 10)) (0, 0) _ rfl (setRow_heap _ _ _ _ _ _ hz) Try.underlying23 rfl hsz) rfl ?_
      exact ⟨rfl, below_setRow hb (by omega) _⟩
end Go.Proofs.Ytpojbjldboknmaa.Rd
