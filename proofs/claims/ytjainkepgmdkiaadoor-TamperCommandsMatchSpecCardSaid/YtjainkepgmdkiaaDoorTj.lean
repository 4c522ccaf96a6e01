/-
  Unlock, Zeroize and Decommission: the walks.
-/
import Derived.Test.YtjainkepgmdkiaaDoorTi
namespace Go.Proofs.YtjainkepgmdkiaaDoor.Tj
open Go.RowKit Go.Proofs.YtjainkepgmdkiaaDoor.B Go.Proofs.YtjainkepgmdkiaaDoor.Ta Go.Proofs.YtjainkepgmdkiaaDoor.Tb Go.Proofs.YtjainkepgmdkiaaDoor.Tc Go.Proofs.YtjainkepgmdkiaaDoor.Tz Go.Proofs.YtjainkepgmdkiaaDoor.Te Go.Proofs.YtjainkepgmdkiaaDoor.Tf Go.Proofs.YtjainkepgmdkiaaDoor.Tg Go.Proofs.YtjainkepgmdkiaaDoor.Th Go.Proofs.YtjainkepgmdkiaaDoor.Ti
attribute [local go_sem] max2_int min2_int max_two min_two
theorem box_all (w w1 : World) (cs : Array Value) (t : TypeId) (h : Below (w.alloc (.cells cs t)).heap.size (w.alloc (.cells cs t)) w1) : Blk w1 w.heap.size t cs := (Blk.new w t cs).below h (lt_alloc _ _)
set_option maxHeartbeats 4000000 in
set_option maxRecDepth 100000 in
theorem unl_err (s T : Tm) (E now : Int) (w : World) (hG : Gl w) (hp : ∀ W, Gl W → Gives 12 #[.agg s.cells, .int .i64 now] T E W) (hE : E ≠ 0) : Gives 15 #[.agg s.cells, .int .i64 now] nil0 E w := by
  have hp' : ∀ W, Gl W → Calls Tryd.prog 12 #[.agg #[.int .i64 s.m, .int .i64 s.t, .int .i64 s.a, .int .i64 s.b, .int .i64 s.c, .int .i64 s.d], .int .i64 now] W fun e w' => e = .returned (.tuple #[.agg #[.int .i64 T.m, .int .i64 T.t, .int .i64 T.a, .int .i64 T.b, .int .i64 T.c, .int .i64 T.d], .int .i64 E]) ∧ Below W.heap.size W w' := hp
  have HP := Lib.hid hp'
  clear hp hp'
  have z : (E != 0) = true := by simp [hE]
  clear hE
  have r2 := Blk.new (w.alloc (.cells s.cells 27)) 27 nil0.cells
  simp only [size_alloc] at r2
  have b2 : Below w.heap.size w ((w.alloc (.cells s.cells 27)).alloc (.cells nil0.cells 27)) := ((Below.refl _ _).alloc (Nat.le_refl _) _).alloc (by rw [size_alloc]; omega) _
  have hG2 := hG.below b2 hG.lt
  have s2 : ((w.alloc (.cells s.cells 27)).alloc (.cells nil0.cells 27)).heap.size = w.heap.size + 1 + 1 := by simp only [size_alloc]
  change Calls Tryd.prog 15 #[.agg #[.int .i64 s.m, .int .i64 s.t, .int .i64 s.a, .int .i64 s.b, .int .i64 s.c, .int .i64 s.d], .int .i64 now] w _
  go_enter Tryd.func15, Tryd.ntmps15
  go_wp2_with fail
  change Calls _ _ _ ((w.alloc (.cells s.cells 27)).alloc (.cells nil0.cells 27)) _
  generalize (w.alloc (.cells s.cells 27)).alloc (.cells nil0.cells 27) = W2 at r2 b2 hG2 s2 ⊢
  refine (HP.out W2 hG2).mono ?_
  rintro e w5 ⟨rfl, hb5⟩
  have r5 := (r2.below hb5 r2.lt).alloc (.cells #[.int .i64 T.m, .int .i64 T.t, .int .i64 T.a, .int .i64 T.b, .int .i64 T.c, .int .i64 T.d] 27)
  have b5 := below_next b2 hb5
  have b6 := b5.alloc b5.size (.cells #[.int .i64 T.m, .int .i64 T.t, .int .i64 T.a, .int .i64 T.b, .int .i64 T.c, .int .i64 T.d] 27)
  have hr1 : w.heap.size + 1 < w5.heap.size := by have := hb5.size; omega
  have S2 := Lib.hid s2
  clear r2 b2 hG2 hb5 s2 hG
  go_wp2_with (first | ((with_reducible refine gate_store (t := 27) (p := 4) (v := .tmp 17) rfl ?_); refine wpList_store_row rfl 27 (.tmp 4) (.tmp 17) rfl (w.heap.size + 1) nil0.cells rfl rfl 27 nil0.cells r5 (sz27 nil0) rfl (cells_one _) ?_))
  obtain ⟨d, hd⟩ := under27
  refine bodyPost_ret (results_row_tmp rfl _ _ (w.heap.size + 1) 27 nil0.cells (0, 0) _ rfl (setRow_heap _ _ _ _ _ _ r5) hd rfl (sz27 nil0)) rfl ?_
  exact ⟨rfl, below_setRow b6 (by omega) _⟩
set_option maxHeartbeats 4000000 in
set_option maxRecDepth 100000 in
theorem unl_over (s T : Tm) (E now : Int) (w : World) (hG : Gl w) (hp : ∀ W, Gl W → Gives 12 #[.agg s.cells, .int .i64 now] T E W) (hE : E = 0) (hm : 4 ≤ T.m) : Gives 15 #[.agg s.cells, .int .i64 now] nil0 19 w := by
  have hp' : ∀ W, Gl W → Calls Tryd.prog 12 #[.agg #[.int .i64 s.m, .int .i64 s.t, .int .i64 s.a, .int .i64 s.b, .int .i64 s.c, .int .i64 s.d], .int .i64 now] W fun e w' => e = .returned (.tuple #[.agg #[.int .i64 T.m, .int .i64 T.t, .int .i64 T.a, .int .i64 T.b, .int .i64 T.c, .int .i64 T.d], .int .i64 E]) ∧ Below W.heap.size W w' := hp
  have HP := Lib.hid hp'
  clear hp hp'
  have z : (E != 0) = false := by simp [hE]
  clear hE
  have r2 := Blk.new (w.alloc (.cells s.cells 27)) 27 nil0.cells
  simp only [size_alloc] at r2
  have b2 : Below w.heap.size w ((w.alloc (.cells s.cells 27)).alloc (.cells nil0.cells 27)) := ((Below.refl _ _).alloc (Nat.le_refl _) _).alloc (by rw [size_alloc]; omega) _
  have hG2 := hG.below b2 hG.lt
  have s2 : ((w.alloc (.cells s.cells 27)).alloc (.cells nil0.cells 27)).heap.size = w.heap.size + 1 + 1 := by simp only [size_alloc]
  change Calls Tryd.prog 15 #[.agg #[.int .i64 s.m, .int .i64 s.t, .int .i64 s.a, .int .i64 s.b, .int .i64 s.c, .int .i64 s.d], .int .i64 now] w _
  go_enter Tryd.func15, Tryd.ntmps15
  go_wp2_with fail
  change Calls _ _ _ ((w.alloc (.cells s.cells 27)).alloc (.cells nil0.cells 27)) _
  generalize (w.alloc (.cells s.cells 27)).alloc (.cells nil0.cells 27) = W2 at r2 b2 hG2 s2 ⊢
  refine (HP.out W2 hG2).mono ?_
  rintro e w5 ⟨rfl, hb5⟩
  have r5 := (r2.below hb5 r2.lt).alloc (.cells #[.int .i64 T.m, .int .i64 T.t, .int .i64 T.a, .int .i64 T.b, .int .i64 T.c, .int .i64 T.d] 27)
  have b5 := below_next b2 hb5
  have b6 := b5.alloc b5.size (.cells #[.int .i64 T.m, .int .i64 T.t, .int .i64 T.a, .int .i64 T.b, .int .i64 T.c, .int .i64 T.d] 27)
  have hr1 : w.heap.size + 1 < w5.heap.size := by have := hb5.size; omega
  have S2 := Lib.hid s2
  clear r2 b2 hG2 hb5 s2 hG
  go_wp2_with (first | ((with_reducible refine gate_store (t := 27) (p := 4) (v := .tmp 23) rfl ?_); refine wpList_store_row rfl 27 (.tmp 4) (.tmp 23) rfl (w.heap.size + 1) nil0.cells rfl rfl 27 nil0.cells r5 (sz27 nil0) rfl (cells_one _) ?_))
  obtain ⟨d, hd⟩ := under27
  refine bodyPost_ret (results_row_tmp rfl _ _ (w.heap.size + 1) 27 nil0.cells (0, 0) _ rfl (setRow_heap _ _ _ _ _ _ r5) hd rfl (sz27 nil0)) rfl ?_
  exact ⟨rfl, below_setRow b6 (by omega) _⟩
set_option maxHeartbeats 4000000 in
set_option maxRecDepth 100000 in
theorem unl_free (s T : Tm) (E now : Int) (w : World) (hG : Gl w) (hp : ∀ W, Gl W → Gives 12 #[.agg s.cells, .int .i64 now] T E W) (hE : E = 0) (hm : T.m < 4) (hn : T.m ≠ 3) : Gives 15 #[.agg s.cells, .int .i64 now] nil0 11 w := by
  have hp' : ∀ W, Gl W → Calls Tryd.prog 12 #[.agg #[.int .i64 s.m, .int .i64 s.t, .int .i64 s.a, .int .i64 s.b, .int .i64 s.c, .int .i64 s.d], .int .i64 now] W fun e w' => e = .returned (.tuple #[.agg #[.int .i64 T.m, .int .i64 T.t, .int .i64 T.a, .int .i64 T.b, .int .i64 T.c, .int .i64 T.d], .int .i64 E]) ∧ Below W.heap.size W w' := hp
  have HP := Lib.hid hp'
  clear hp hp'
  have z : (E != 0) = false := by simp [hE]
  have z3 : (T.m != 3) = true := by simp [hn]
  clear hE hn
  have r2 := Blk.new (w.alloc (.cells s.cells 27)) 27 nil0.cells
  simp only [size_alloc] at r2
  have b2 : Below w.heap.size w ((w.alloc (.cells s.cells 27)).alloc (.cells nil0.cells 27)) := ((Below.refl _ _).alloc (Nat.le_refl _) _).alloc (by rw [size_alloc]; omega) _
  have hG2 := hG.below b2 hG.lt
  have s2 : ((w.alloc (.cells s.cells 27)).alloc (.cells nil0.cells 27)).heap.size = w.heap.size + 1 + 1 := by simp only [size_alloc]
  change Calls Tryd.prog 15 #[.agg #[.int .i64 s.m, .int .i64 s.t, .int .i64 s.a, .int .i64 s.b, .int .i64 s.c, .int .i64 s.d], .int .i64 now] w _
  go_enter Tryd.func15, Tryd.ntmps15
  go_wp2_with fail
  change Calls _ _ _ ((w.alloc (.cells s.cells 27)).alloc (.cells nil0.cells 27)) _
  generalize (w.alloc (.cells s.cells 27)).alloc (.cells nil0.cells 27) = W2 at r2 b2 hG2 s2 ⊢
  refine (HP.out W2 hG2).mono ?_
  rintro e w5 ⟨rfl, hb5⟩
  have r5 := (r2.below hb5 r2.lt).alloc (.cells #[.int .i64 T.m, .int .i64 T.t, .int .i64 T.a, .int .i64 T.b, .int .i64 T.c, .int .i64 T.d] 27)
  have b5 := below_next b2 hb5
  have b6 := b5.alloc b5.size (.cells #[.int .i64 T.m, .int .i64 T.t, .int .i64 T.a, .int .i64 T.b, .int .i64 T.c, .int .i64 T.d] 27)
  have hr1 : w.heap.size + 1 < w5.heap.size := by have := hb5.size; omega
  have S2 := Lib.hid s2
  clear r2 b2 hG2 hb5 s2 hG
  go_wp2_with (first | ((with_reducible refine gate_store (t := 27) (p := 4) (v := .tmp 28) rfl ?_); refine wpList_store_row rfl 27 (.tmp 4) (.tmp 28) rfl (w.heap.size + 1) nil0.cells rfl rfl 27 nil0.cells r5 (sz27 nil0) rfl (cells_one _) ?_))
  obtain ⟨d, hd⟩ := under27
  refine bodyPost_ret (results_row_tmp rfl _ _ (w.heap.size + 1) 27 nil0.cells (0, 0) _ rfl (setRow_heap _ _ _ _ _ _ r5) hd rfl (sz27 nil0)) rfl ?_
  exact ⟨rfl, below_setRow b6 (by omega) _⟩
set_option maxHeartbeats 4000000 in
set_option maxRecDepth 100000 in
theorem unl_hot (s T : Tm) (E now : Int) (w : World) (hG : Gl w) (hp : ∀ W, Gl W → Gives 12 #[.agg s.cells, .int .i64 now] T E W) (hE : E = 0) (hn : T.m = 3) (hs : Scores T) (ht : tot T ≠ 0) : Gives 15 #[.agg s.cells, .int .i64 now] nil0 18 w := by
  have hp' : ∀ W, Gl W → Calls Tryd.prog 12 #[.agg #[.int .i64 s.m, .int .i64 s.t, .int .i64 s.a, .int .i64 s.b, .int .i64 s.c, .int .i64 s.d], .int .i64 now] W fun e w' => e = .returned (.tuple #[.agg #[.int .i64 T.m, .int .i64 T.t, .int .i64 T.a, .int .i64 T.b, .int .i64 T.c, .int .i64 T.d], .int .i64 E]) ∧ Below W.heap.size W w' := hp
  have HP := Lib.hid hp'
  clear hp hp'
  have z : (E != 0) = false := by simp [hE]
  have z3 : (T.m != 3) = false := by simp [hn]
  have z4 : decide (4 ≤ T.m) = false := decide_eq_false (by omega)
  have hT : ∀ w, Calls Tryd.prog 13 #[.agg #[.int .i64 T.m, .int .i64 T.t, .int .i64 T.a, .int .i64 T.b, .int .i64 T.c, .int .i64 T.d]] w fun e w' => e = .returned (.int .i64 (tot T)) ∧ Below w.heap.size w w' := fun w => total_walk T w hs
  have zt : (tot T != 0) = true := by simp [ht]
  have HT := Lib.hid hT
  clear hE hn ht hT hs
  generalize tot T = TT at HT zt
  have r2 := Blk.new (w.alloc (.cells s.cells 27)) 27 nil0.cells
  simp only [size_alloc] at r2
  have b2 : Below w.heap.size w ((w.alloc (.cells s.cells 27)).alloc (.cells nil0.cells 27)) := ((Below.refl _ _).alloc (Nat.le_refl _) _).alloc (by rw [size_alloc]; omega) _
  have hG2 := hG.below b2 hG.lt
  have s2 : ((w.alloc (.cells s.cells 27)).alloc (.cells nil0.cells 27)).heap.size = w.heap.size + 1 + 1 := by simp only [size_alloc]
  change Calls Tryd.prog 15 #[.agg #[.int .i64 s.m, .int .i64 s.t, .int .i64 s.a, .int .i64 s.b, .int .i64 s.c, .int .i64 s.d], .int .i64 now] w _
  go_enter Tryd.func15, Tryd.ntmps15
  go_wp2_with fail
  change Calls _ _ _ ((w.alloc (.cells s.cells 27)).alloc (.cells nil0.cells 27)) _
  generalize (w.alloc (.cells s.cells 27)).alloc (.cells nil0.cells 27) = W2 at r2 b2 hG2 s2 ⊢
  refine (HP.out W2 hG2).mono ?_
  rintro e w5 ⟨rfl, hb5⟩
  have r5 := (r2.below hb5 r2.lt).alloc (.cells #[.int .i64 T.m, .int .i64 T.t, .int .i64 T.a, .int .i64 T.b, .int .i64 T.c, .int .i64 T.d] 27)
  have b5 := below_next b2 hb5
  have b6 := b5.alloc b5.size (.cells #[.int .i64 T.m, .int .i64 T.t, .int .i64 T.a, .int .i64 T.b, .int .i64 T.c, .int .i64 T.d] 27)
  have hr1 : w.heap.size + 1 < w5.heap.size := by have := hb5.size; omega
  have S2 := Lib.hid s2
  clear r2 b2 hG2 hb5 s2 hG
  go_wp2_with (first | (go_at_call 13; ((with_reducible refine (HT.out _).mono ?_); rintro e w7 ⟨rfl, hb7⟩; have t7 := box_all _ _ _ _ hb7; have r7 := r5.below hb7 r5.lt; have b7 := below_next b6 hb7; have m0 : w7.cell? ⟨w5.heap.size, 0, none⟩ = some (.int .i64 T.m) := t7.cell 0; have m1 : w7.cell? ⟨w5.heap.size, 1, none⟩ = some (.int .i64 T.t) := t7.cell 1; have m2 : w7.cell? ⟨w5.heap.size, 2, none⟩ = some (.int .i64 T.a) := t7.cell 2; have m3 : w7.cell? ⟨w5.heap.size, 3, none⟩ = some (.int .i64 T.b) := t7.cell 3; have m4 : w7.cell? ⟨w5.heap.size, 4, none⟩ = some (.int .i64 T.c) := t7.cell 4; have m5 : w7.cell? ⟨w5.heap.size, 5, none⟩ = some (.int .i64 T.d) := t7.cell 5; have f0 := t7.frozen 0)) | ((with_reducible refine gate_store (t := 27) (p := 4) (v := .tmp 33) rfl ?_); refine wpList_store_row rfl 27 (.tmp 4) (.tmp 33) rfl (w.heap.size + 1) nil0.cells rfl rfl 27 nil0.cells r7 (sz27 nil0) rfl (cells_one _) ?_))
  obtain ⟨d, hd⟩ := under27
  refine bodyPost_ret (results_row_tmp rfl _ _ (w.heap.size + 1) 27 nil0.cells (0, 0) _ rfl (setRow_heap _ _ _ _ _ _ r7) hd rfl (sz27 nil0)) rfl ?_
  exact ⟨rfl, below_setRow b7 (by omega) _⟩
set_option maxHeartbeats 4000000 in
set_option maxRecDepth 100000 in
theorem unl_ok (s T : Tm) (E now : Int) (w : World) (hG : Gl w) (hp : ∀ W, Gl W → Gives 12 #[.agg s.cells, .int .i64 now] T E W) (hE : E = 0) (hn : T.m = 3) (hs : Scores T) (ht : tot T = 0) : Gives 15 #[.agg s.cells, .int .i64 now] ⟨1, T.t, T.a, T.b, T.c, T.d⟩ 0 w := by
  have hp' : ∀ W, Gl W → Calls Tryd.prog 12 #[.agg #[.int .i64 s.m, .int .i64 s.t, .int .i64 s.a, .int .i64 s.b, .int .i64 s.c, .int .i64 s.d], .int .i64 now] W fun e w' => e = .returned (.tuple #[.agg #[.int .i64 T.m, .int .i64 T.t, .int .i64 T.a, .int .i64 T.b, .int .i64 T.c, .int .i64 T.d], .int .i64 E]) ∧ Below W.heap.size W w' := hp
  have HP := Lib.hid hp'
  clear hp hp'
  have z : (E != 0) = false := by simp [hE]
  have z3 : (T.m != 3) = false := by simp [hn]
  have z4 : decide (4 ≤ T.m) = false := decide_eq_false (by omega)
  have hT : ∀ w, Calls Tryd.prog 13 #[.agg #[.int .i64 T.m, .int .i64 T.t, .int .i64 T.a, .int .i64 T.b, .int .i64 T.c, .int .i64 T.d]] w fun e w' => e = .returned (.int .i64 (tot T)) ∧ Below w.heap.size w w' := fun w => total_walk T w hs
  have zt : (tot T != 0) = false := by simp [ht]
  have HT := Lib.hid hT
  clear hE hn ht hT hs
  generalize tot T = TT at HT zt
  have r2 := Blk.new (w.alloc (.cells s.cells 27)) 27 nil0.cells
  simp only [size_alloc] at r2
  have b2 : Below w.heap.size w ((w.alloc (.cells s.cells 27)).alloc (.cells nil0.cells 27)) := ((Below.refl _ _).alloc (Nat.le_refl _) _).alloc (by rw [size_alloc]; omega) _
  have hG2 := hG.below b2 hG.lt
  have s2 : ((w.alloc (.cells s.cells 27)).alloc (.cells nil0.cells 27)).heap.size = w.heap.size + 1 + 1 := by simp only [size_alloc]
  change Calls Tryd.prog 15 #[.agg #[.int .i64 s.m, .int .i64 s.t, .int .i64 s.a, .int .i64 s.b, .int .i64 s.c, .int .i64 s.d], .int .i64 now] w _
  go_enter Tryd.func15, Tryd.ntmps15
  go_wp2_with fail
  change Calls _ _ _ ((w.alloc (.cells s.cells 27)).alloc (.cells nil0.cells 27)) _
  generalize (w.alloc (.cells s.cells 27)).alloc (.cells nil0.cells 27) = W2 at r2 b2 hG2 s2 ⊢
  refine (HP.out W2 hG2).mono ?_
  rintro e w5 ⟨rfl, hb5⟩
  have r5 := (r2.below hb5 r2.lt).alloc (.cells #[.int .i64 T.m, .int .i64 T.t, .int .i64 T.a, .int .i64 T.b, .int .i64 T.c, .int .i64 T.d] 27)
  have b5 := below_next b2 hb5
  have b6 := b5.alloc b5.size (.cells #[.int .i64 T.m, .int .i64 T.t, .int .i64 T.a, .int .i64 T.b, .int .i64 T.c, .int .i64 T.d] 27)
  have hr1 : w.heap.size + 1 < w5.heap.size := by have := hb5.size; omega
  have S2 := Lib.hid s2
  clear r2 b2 hG2 hb5 s2 hG
  go_wp2_with (first | (go_at_call 13; ((with_reducible refine (HT.out _).mono ?_); rintro e w7 ⟨rfl, hb7⟩; have t7 := box_all _ _ _ _ hb7; have r7 := r5.below hb7 r5.lt; have b7 := below_next b6 hb7; have m0 : w7.cell? ⟨w5.heap.size, 0, none⟩ = some (.int .i64 T.m) := t7.cell 0; have m1 : w7.cell? ⟨w5.heap.size, 1, none⟩ = some (.int .i64 T.t) := t7.cell 1; have m2 : w7.cell? ⟨w5.heap.size, 2, none⟩ = some (.int .i64 T.a) := t7.cell 2; have m3 : w7.cell? ⟨w5.heap.size, 3, none⟩ = some (.int .i64 T.b) := t7.cell 3; have m4 : w7.cell? ⟨w5.heap.size, 4, none⟩ = some (.int .i64 T.c) := t7.cell 4; have m5 : w7.cell? ⟨w5.heap.size, 5, none⟩ = some (.int .i64 T.d) := t7.cell 5; have f0 := t7.frozen 0)) | ((with_reducible refine gate_store (t := 27) (p := 4) (v := .tmp 35) rfl ?_); refine wpList_store_row rfl 27 (.tmp 4) (.tmp 35) rfl (w.heap.size + 1) (⟨1, T.t, T.a, T.b, T.c, T.d⟩ : Tm).cells rfl rfl 27 nil0.cells (r7.far (p := ⟨w5.heap.size, 0, none⟩) (show w.heap.size + 1 ≠ w5.heap.size by omega) (.int .i64 1)) (sz27 ⟨1, T.t, T.a, T.b, T.c, T.d⟩) rfl (cells_one _) ?_))
  obtain ⟨d, hd⟩ := under27
  refine bodyPost_ret (results_row_tmp rfl _ _ (w.heap.size + 1) 27 (⟨1, T.t, T.a, T.b, T.c, T.d⟩ : Tm).cells (0, 0) _ rfl (setRow_heap _ _ _ _ _ _ (r7.far (p := ⟨w5.heap.size, 0, none⟩) (show w.heap.size + 1 ≠ w5.heap.size by omega) (.int .i64 1))) hd rfl (sz27 ⟨1, T.t, T.a, T.b, T.c, T.d⟩)) rfl ?_
  exact ⟨rfl, below_setRow (b7.setCell (p := ⟨w5.heap.size, 0, none⟩) b5.size (.int .i64 1)) (by omega) _⟩
theorem unl_c (s : Tm) (now : Int) (w : World) (hG : Gl w) : Gives 15 #[.agg s.cells, .int .i64 now] (unlR s now).1 (unlR s now).2 w := by
  have hp := fun W hG => pass_c s now W hG
  unfold unlR
  by_cases hE : (passR s now).2 = 0
  · rw [if_neg (by simp [hE])]
    by_cases h4 : 4 ≤ (passR s now).1.m
    · rw [if_pos h4]
      exact unl_over s _ _ now w hG hp hE h4
    · rw [if_neg h4]
      by_cases h3 : (passR s now).1.m = 3
      · rw [if_neg (by simp [h3])]
        have hs := pass_scores hE
        by_cases ht : tot (passR s now).1 = 0
        · rw [if_neg (by simp [ht])]
          exact unl_ok s _ _ now w hG hp hE h3 hs ht
        · rw [if_pos ht]
          exact unl_hot s _ _ now w hG hp hE h3 hs ht
      · rw [if_pos h3]
        exact unl_free s _ _ now w hG hp hE (by omega) h3
  · rw [if_pos hE]
    exact unl_err s _ _ now w hG hp hE
end Go.Proofs.YtjainkepgmdkiaaDoor.Tj
