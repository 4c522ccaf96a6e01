/-
  Zeroize, Decommission and Permits: the walks.
-/
import Derived.Test.YtjainkepgmdkiaaDoorTj
namespace Go.Proofs.YtjainkepgmdkiaaDoor.Tk
open Go.RowKit Go.Proofs.YtjainkepgmdkiaaDoor.B Go.Proofs.YtjainkepgmdkiaaDoor.Ta Go.Proofs.YtjainkepgmdkiaaDoor.Tb Go.Proofs.YtjainkepgmdkiaaDoor.Tc Go.Proofs.YtjainkepgmdkiaaDoor.Tz Go.Proofs.YtjainkepgmdkiaaDoor.Te Go.Proofs.YtjainkepgmdkiaaDoor.Tf Go.Proofs.YtjainkepgmdkiaaDoor.Tg Go.Proofs.YtjainkepgmdkiaaDoor.Th Go.Proofs.YtjainkepgmdkiaaDoor.Ti Go.Proofs.YtjainkepgmdkiaaDoor.Tj
attribute [local go_sem] max2_int min2_int max_two min_two
set_option maxHeartbeats 4000000 in
set_option maxRecDepth 100000 in
theorem end_no (s : Tm) (k : Int) (w : World) (h : ¬ Vld s) : Gives 33 #[.agg s.cells, .int .i64 k] nil0 1 w := by
  have hcall : ∀ w, Calls Tryd.prog 22 #[.agg #[.int .i64 s.m, .int .i64 s.t, .int .i64 s.a, .int .i64 s.b, .int .i64 s.c, .int .i64 s.d]] w fun e w' => e = .returned (.bool false) ∧ Below w.heap.size w w' := fun w => valid_no s w h
  have HC := Lib.hid hcall
  clear hcall h
  have r2 := Blk.new (w.alloc (.cells s.cells 27)) 27 nil0.cells
  simp only [size_alloc] at r2
  have b2 : Below w.heap.size w ((w.alloc (.cells s.cells 27)).alloc (.cells nil0.cells 27)) := ((Below.refl _ _).alloc (Nat.le_refl _) _).alloc (by rw [size_alloc]; omega) _
  change Calls Tryd.prog 33 #[.agg #[.int .i64 s.m, .int .i64 s.t, .int .i64 s.a, .int .i64 s.b, .int .i64 s.c, .int .i64 s.d], .int .i64 k] w _
  go_enter Tryd.func33, Tryd.ntmps33
  go_wp2_with fail
  change Calls _ _ _ ((w.alloc (.cells s.cells 27)).alloc (.cells nil0.cells 27)) _
  generalize (w.alloc (.cells s.cells 27)).alloc (.cells nil0.cells 27) = W2 at r2 b2 ⊢
  refine (HC.out W2).mono ?_
  rintro e w5 ⟨rfl, hb5⟩
  have r5 := r2.below hb5 r2.lt
  have b5 := below_next b2 hb5
  clear r2 b2 hb5
  go_wp2_with (first | ((with_reducible refine gate_store (t := 27) (p := 4) (v := .tmp 9) rfl ?_); refine wpList_store_row rfl 27 (.tmp 4) (.tmp 9) rfl (w.heap.size + 1) nil0.cells rfl rfl 27 nil0.cells r5 (sz27 nil0) rfl (cells_one _) ?_))
  obtain ⟨d, hd⟩ := under27
  refine bodyPost_ret (results_row_tmp rfl _ _ (w.heap.size + 1) 27 nil0.cells (0, 0) _ rfl (setRow_heap _ _ _ _ _ _ r5) hd rfl (sz27 nil0)) rfl ?_
  exact ⟨rfl, below_setRow b5 (by omega) _⟩
set_option maxHeartbeats 4000000 in
set_option maxRecDepth 100000 in
theorem end_yes (s : Tm) (k : Int) (w : World) (h : Vld s) : Gives 33 #[.agg s.cells, .int .i64 k] ⟨more s.m k, s.t, s.a, s.b, s.c, s.d⟩ 0 w := by
  have hcall : ∀ w, Calls Tryd.prog 22 #[.agg #[.int .i64 s.m, .int .i64 s.t, .int .i64 s.a, .int .i64 s.b, .int .i64 s.c, .int .i64 s.d]] w fun e w' => e = .returned (.bool true) ∧ Below w.heap.size w w' := fun w => valid_yes s w h
  have HC := Lib.hid hcall
  clear hcall h
  have hm : (if s.m < k then k else s.m) = more s.m k := rfl
  have q2 := (Blk.new w 27 s.cells).alloc (.cells nil0.cells 27)
  have r2 := Blk.new (w.alloc (.cells s.cells 27)) 27 nil0.cells
  simp only [size_alloc] at r2
  have b2 : Below w.heap.size w ((w.alloc (.cells s.cells 27)).alloc (.cells nil0.cells 27)) := ((Below.refl _ _).alloc (Nat.le_refl _) _).alloc (by rw [size_alloc]; omega) _
  change Calls Tryd.prog 33 #[.agg #[.int .i64 s.m, .int .i64 s.t, .int .i64 s.a, .int .i64 s.b, .int .i64 s.c, .int .i64 s.d], .int .i64 k] w _
  go_enter Tryd.func33, Tryd.ntmps33
  go_wp2_with fail
  change Calls _ _ _ ((w.alloc (.cells s.cells 27)).alloc (.cells nil0.cells 27)) _
  generalize (w.alloc (.cells s.cells 27)).alloc (.cells nil0.cells 27) = W2 at q2 r2 b2 ⊢
  refine (HC.out W2).mono ?_
  rintro e w5 ⟨rfl, hb5⟩
  have r5 := r2.below hb5 r2.lt
  have q5 := q2.below hb5 q2.lt
  have b5 := below_next b2 hb5
  have m0 : w5.cell? ⟨w.heap.size, 0, none⟩ = some (.int .i64 s.m) := q5.cell 0
  have m1 : w5.cell? ⟨w.heap.size, 1, none⟩ = some (.int .i64 s.t) := q5.cell 1
  have m2 : w5.cell? ⟨w.heap.size, 2, none⟩ = some (.int .i64 s.a) := q5.cell 2
  have m3 : w5.cell? ⟨w.heap.size, 3, none⟩ = some (.int .i64 s.b) := q5.cell 3
  have m4 : w5.cell? ⟨w.heap.size, 4, none⟩ = some (.int .i64 s.c) := q5.cell 4
  have m5 : w5.cell? ⟨w.heap.size, 5, none⟩ = some (.int .i64 s.d) := q5.cell 5
  have f0 := q5.frozen 0
  have r6 := r5.far (p := ⟨w.heap.size, 0, none⟩) (show w.heap.size + 1 ≠ w.heap.size by omega) (.int .i64 (more s.m k))
  have b6 := b5.setCell (p := ⟨w.heap.size, 0, none⟩) (Nat.le_refl _) (.int .i64 (more s.m k))
  clear r2 q2 b2 hb5 q5 r5 b5
  go_wp2_with (first | ((with_reducible refine gate_store (t := 27) (p := 4) (v := .tmp 15) rfl ?_); refine wpList_store_row rfl 27 (.tmp 4) (.tmp 15) rfl (w.heap.size + 1) (⟨more s.m k, s.t, s.a, s.b, s.c, s.d⟩ : Tm).cells rfl rfl 27 nil0.cells r6 (sz27 ⟨more s.m k, s.t, s.a, s.b, s.c, s.d⟩) rfl (cells_one _) ?_))
  obtain ⟨d, hd⟩ := under27
  refine bodyPost_ret (results_row_tmp rfl _ _ (w.heap.size + 1) 27 (⟨more s.m k, s.t, s.a, s.b, s.c, s.d⟩ : Tm).cells (0, 0) _ rfl (setRow_heap _ _ _ _ _ _ r6) hd rfl (sz27 ⟨more s.m k, s.t, s.a, s.b, s.c, s.d⟩)) rfl ?_
  exact ⟨rfl, below_setRow b6 (by omega) _⟩
theorem end_c (s : Tm) (k : Int) (w : World) : Gives 33 #[.agg s.cells, .int .i64 k] (endR s k).1 (endR s k).2 w := by
  unfold endR
  by_cases h : Vld s
  · rw [if_pos h]; exact end_yes s k w h
  · rw [if_neg h]; exact end_no s k w h
/-- Zeroize and Decommission hand end's answer on. -/
theorem over_c (f : Nat) (k : Int) (hf : f = 17 ∧ k = 4 ∨ f = 19 ∧ k = 5) (s : Tm) (w : World) : Gives f #[.agg s.cells] (endR s k).1 (endR s k).2 w := by
  have r2 := Blk.new (w.alloc (.cells s.cells 27)) 27 nil0.cells
  simp only [size_alloc] at r2
  have b2 : Below w.heap.size w ((w.alloc (.cells s.cells 27)).alloc (.cells nil0.cells 27)) := ((Below.refl _ _).alloc (Nat.le_refl _) _).alloc (by rw [size_alloc]; omega) _
  have hcall : ∀ w, Calls Tryd.prog 33 #[.agg #[.int .i64 s.m, .int .i64 s.t, .int .i64 s.a, .int .i64 s.b, .int .i64 s.c, .int .i64 s.d], .int .i64 k] w fun e w' => e = .returned (.tuple #[.agg (endR s k).1.cells, .int .i64 (endR s k).2]) ∧ Below w.heap.size w w' := fun w => end_c s k w
  have HC := Lib.hid hcall
  clear hcall
  generalize (endR s k).1 = T at HC
  generalize (endR s k).2 = E at HC
  rcases hf with ⟨rfl, rfl⟩ | ⟨rfl, rfl⟩
  · change Calls Tryd.prog 17 #[.agg #[.int .i64 s.m, .int .i64 s.t, .int .i64 s.a, .int .i64 s.b, .int .i64 s.c, .int .i64 s.d]] w _
    go_enter Tryd.func17, Tryd.ntmps17
    go_wp2_with fail
    change Calls _ _ _ ((w.alloc (.cells s.cells 27)).alloc (.cells nil0.cells 27)) _
    generalize (w.alloc (.cells s.cells 27)).alloc (.cells nil0.cells 27) = W2 at r2 b2 ⊢
    refine (HC.out W2).mono ?_
    rintro e w5 ⟨rfl, hb5⟩
    have r5 := r2.below hb5 r2.lt
    have b5 := below_next b2 hb5
    clear r2 b2 hb5
    go_wp2_with (first | ((with_reducible refine gate_store (t := 27) (p := 2) (v := .tmp 6) rfl ?_); refine wpList_store_row rfl 27 (.tmp 2) (.tmp 6) rfl (w.heap.size + 1) T.cells rfl rfl 27 nil0.cells r5 (sz27 T) rfl (cells_one _) ?_))
    obtain ⟨d, hd⟩ := under27
    refine bodyPost_ret (results_row_tmp rfl _ _ (w.heap.size + 1) 27 T.cells (0, 0) _ rfl (setRow_heap _ _ _ _ _ _ r5) hd rfl (sz27 T)) rfl ?_
    exact ⟨rfl, below_setRow b5 (by omega) _⟩
  · change Calls Tryd.prog 19 #[.agg #[.int .i64 s.m, .int .i64 s.t, .int .i64 s.a, .int .i64 s.b, .int .i64 s.c, .int .i64 s.d]] w _
    go_enter Tryd.func19, Tryd.ntmps19
    go_wp2_with fail
    change Calls _ _ _ ((w.alloc (.cells s.cells 27)).alloc (.cells nil0.cells 27)) _
    generalize (w.alloc (.cells s.cells 27)).alloc (.cells nil0.cells 27) = W2 at r2 b2 ⊢
    refine (HC.out W2).mono ?_
    rintro e w5 ⟨rfl, hb5⟩
    have r5 := r2.below hb5 r2.lt
    have b5 := below_next b2 hb5
    clear r2 b2 hb5
    go_wp2_with (first | ((with_reducible refine gate_store (t := 27) (p := 2) (v := .tmp 6) rfl ?_); refine wpList_store_row rfl 27 (.tmp 2) (.tmp 6) rfl (w.heap.size + 1) T.cells rfl rfl 27 nil0.cells r5 (sz27 T) rfl (cells_one _) ?_))
    obtain ⟨d, hd⟩ := under27
    refine bodyPost_ret (results_row_tmp rfl _ _ (w.heap.size + 1) 27 T.cells (0, 0) _ rfl (setRow_heap _ _ _ _ _ _ r5) hd rfl (sz27 T)) rfl ?_
    exact ⟨rfl, below_setRow b5 (by omega) _⟩
end Go.Proofs.YtjainkepgmdkiaaDoor.Tk
