/-
  The specification's passing of time, ends and unlocking. (Written by a program.)
-/
import Derived.Test.YtjainkepgmdkiaaDoorVa
import Derived.Test.YtjainkepgmdkiaaDoorUd
namespace Go.Proofs.YtjainkepgmdkiaaDoor.Vb
open Go.RowKit Go.Proofs.YtjainkepgmdkiaaDoor.B Go.Proofs.YtjainkepgmdkiaaDoor.Ta Go.Proofs.YtjainkepgmdkiaaDoor.Tb Go.Proofs.YtjainkepgmdkiaaDoor.Tc Go.Proofs.YtjainkepgmdkiaaDoor.Tz Go.Proofs.YtjainkepgmdkiaaDoor.Te Go.Proofs.YtjainkepgmdkiaaDoor.Tf Go.Proofs.YtjainkepgmdkiaaDoor.Tg Go.Proofs.YtjainkepgmdkiaaDoor.Th Go.Proofs.YtjainkepgmdkiaaDoor.Ti Go.Proofs.YtjainkepgmdkiaaDoor.Tt Go.Proofs.YtjainkepgmdkiaaDoor.To Go.Proofs.YtjainkepgmdkiaaDoor.Ua Go.Proofs.YtjainkepgmdkiaaDoor.Ud Go.Proofs.YtjainkepgmdkiaaDoor.Va
attribute [local go_sem] max2_int min2_int max_two min_two
theorem six_put2 {wq : World} {g : Nat} {s B : Tm} (hz : Blk wq g 27 s.cells) : Blk (six0 wq g B) g 27 B.cells :=
  (((((hz.put 0 (.int .i64 B.m)).put 1 (.int .i64 B.t)).put 2 (.int .i64 B.a)).put 3 (.int .i64 B.b)).put 4 (.int .i64 B.c)).put 5 (.int .i64 B.d)
abbrev Ends (f : FuncId) (args : Array Value) (T : Tm) (E : Int) (w : World) : Prop := Calls Tryd.prog f args w fun e w' => e = .returned (.tuple #[.agg #[.int .i64 T.m, .int .i64 T.t, .int .i64 T.a, .int .i64 T.b, .int .i64 T.c, .int .i64 T.d], .int .i64 E]) ∧ Below w.heap.size w w'
set_option maxHeartbeats 4000000 in
set_option maxRecDepth 100000 in
theorem rzero_no (s : Tm) (w : World) (hr : RV s false) : Ends 18 #[.agg #[.int .i64 s.m, .int .i64 s.t, .int .i64 s.a, .int .i64 s.b, .int .i64 s.c, .int .i64 s.d]] nil0 1 w := by
  have HR := Lib.hid hr
  clear hr
  have q1 := (Blk.new w 27 s.cells).alloc (.cells nil0.cells 27)
  have r1 := Blk.new (w.alloc (.cells s.cells 27)) 27 nil0.cells
  simp only [size_alloc] at r1
  have b1 : Below w.heap.size w ((w.alloc (.cells s.cells 27)).alloc (.cells nil0.cells 27)) := ((Below.refl _ _).alloc (Nat.le_refl _) _).alloc (by rw [size_alloc]; omega) _
  go_enter Tryd.func18, Tryd.ntmps18
  go_wp2_with fail
  change Calls _ _ _ ((w.alloc (.cells s.cells 27)).alloc (.cells nil0.cells 27)) _
  generalize (w.alloc (.cells s.cells 27)).alloc (.cells nil0.cells 27) = W1 at q1 r1 b1 ⊢
  refine (HR.out W1).mono ?_
  rintro e w2 ⟨rfl, hb2⟩
  have r2 := r1.below hb2 r1.lt
  have b2 := below_next b1 hb2
  clear q1 r1 b1 hb2 HR
  obtain ⟨c0, c1, c2, c3, c4, c5⟩ := six r2
  have y0 := r2.frozen 0
  have y1 := r2.frozen 1
  have y2 := r2.frozen 2
  have y3 := r2.frozen 3
  have y4 := r2.frozen 4
  have y5 := r2.frozen 5
  go_wp2
  clear c0 c1 c2 c3 c4 c5 y0 y1 y2 y3 y4 y5
  obtain ⟨d, hd⟩ := under27
  refine bodyPost_ret (results_row_tmp rfl _ _ (w.heap.size + 1) 27 (Tm.cells nil0) (0, 0) _ rfl (six_put2 (B := nil0) r2) hd rfl (sz27 nil0)) rfl ?_
  exact ⟨rfl, On.below (six_on _ _ nil0) b2 (by omega) b2.size⟩
set_option maxHeartbeats 4000000 in
set_option maxRecDepth 100000 in
theorem rzero_yes (s : Tm) (w : World) (hr : RV s true) (hc : s.m < 4) : Ends 18 #[.agg #[.int .i64 s.m, .int .i64 s.t, .int .i64 s.a, .int .i64 s.b, .int .i64 s.c, .int .i64 s.d]] ⟨4, s.t, s.a, s.b, s.c, s.d⟩ 0 w := by
  have HR := Lib.hid hr
  clear hr
  have q1 := (Blk.new w 27 s.cells).alloc (.cells nil0.cells 27)
  have r1 := Blk.new (w.alloc (.cells s.cells 27)) 27 nil0.cells
  simp only [size_alloc] at r1
  have b1 : Below w.heap.size w ((w.alloc (.cells s.cells 27)).alloc (.cells nil0.cells 27)) := ((Below.refl _ _).alloc (Nat.le_refl _) _).alloc (by rw [size_alloc]; omega) _
  go_enter Tryd.func18, Tryd.ntmps18
  go_wp2_with fail
  change Calls _ _ _ ((w.alloc (.cells s.cells 27)).alloc (.cells nil0.cells 27)) _
  generalize (w.alloc (.cells s.cells 27)).alloc (.cells nil0.cells 27) = W1 at q1 r1 b1 ⊢
  refine (HR.out W1).mono ?_
  rintro e w2 ⟨rfl, hb2⟩
  have q2 := q1.below hb2 q1.lt
  have r2 := r1.below hb2 r1.lt
  have b2 := below_next b1 hb2
  clear q1 r1 b1 hb2 HR
  obtain ⟨c0, c1, c2, c3, c4, c5⟩ := six r2
  have y0 := r2.frozen 0
  have y1 := r2.frozen 1
  have y2 := r2.frozen 2
  have y3 := r2.frozen 3
  have y4 := r2.frozen 4
  have y5 := r2.frozen 5
  obtain ⟨g0, g1, g2, g3, g4, g5⟩ := six q2
  have f0 := q2.frozen 0
  have f1 := q2.frozen 1
  have f2 := q2.frozen 2
  have f3 := q2.frozen 3
  have f4 := q2.frozen 4
  have f5 := q2.frozen 5
  go_wp2
  clear c0 c1 c2 c3 c4 c5 y0 y1 y2 y3 y4 y5 g0 g1 g2 g3 g4 g5 f0 f1 f2 f3 f4 f5
  obtain ⟨d, hd⟩ := under27
  refine bodyPost_ret (results_row_tmp rfl _ _ (w.heap.size + 1) 27 (Tm.cells ⟨4, s.t, s.a, s.b, s.c, s.d⟩) (0, 0) _ rfl (six_put2 (B := ⟨4, s.t, s.a, s.b, s.c, s.d⟩) (r2.far (p := ⟨w.heap.size, 0, none⟩) (by simp) (.int .i64 (4)))) hd rfl (sz27 ⟨4, s.t, s.a, s.b, s.c, s.d⟩)) rfl ?_
  exact ⟨rfl, On.below (six_on _ _ ⟨4, s.t, s.a, s.b, s.c, s.d⟩) (b2.setCell (p := ⟨w.heap.size, 0, none⟩) (Nat.le_refl _) (.int .i64 (4))) (by omega) (b2.setCell (p := ⟨w.heap.size, 0, none⟩) (Nat.le_refl _) (.int .i64 (4))).size⟩
set_option maxHeartbeats 4000000 in
set_option maxRecDepth 100000 in
theorem rgone_no (s : Tm) (w : World) (hr : RV s false) : Ends 20 #[.agg #[.int .i64 s.m, .int .i64 s.t, .int .i64 s.a, .int .i64 s.b, .int .i64 s.c, .int .i64 s.d]] nil0 1 w := by
  have HR := Lib.hid hr
  clear hr
  have q1 := (Blk.new w 27 s.cells).alloc (.cells nil0.cells 27)
  have r1 := Blk.new (w.alloc (.cells s.cells 27)) 27 nil0.cells
  simp only [size_alloc] at r1
  have b1 : Below w.heap.size w ((w.alloc (.cells s.cells 27)).alloc (.cells nil0.cells 27)) := ((Below.refl _ _).alloc (Nat.le_refl _) _).alloc (by rw [size_alloc]; omega) _
  go_enter Tryd.func20, Tryd.ntmps20
  go_wp2_with fail
  change Calls _ _ _ ((w.alloc (.cells s.cells 27)).alloc (.cells nil0.cells 27)) _
  generalize (w.alloc (.cells s.cells 27)).alloc (.cells nil0.cells 27) = W1 at q1 r1 b1 ⊢
  refine (HR.out W1).mono ?_
  rintro e w2 ⟨rfl, hb2⟩
  have r2 := r1.below hb2 r1.lt
  have b2 := below_next b1 hb2
  clear q1 r1 b1 hb2 HR
  obtain ⟨c0, c1, c2, c3, c4, c5⟩ := six r2
  have y0 := r2.frozen 0
  have y1 := r2.frozen 1
  have y2 := r2.frozen 2
  have y3 := r2.frozen 3
  have y4 := r2.frozen 4
  have y5 := r2.frozen 5
  go_wp2
  clear c0 c1 c2 c3 c4 c5 y0 y1 y2 y3 y4 y5
  obtain ⟨d, hd⟩ := under27
  refine bodyPost_ret (results_row_tmp rfl _ _ (w.heap.size + 1) 27 (Tm.cells nil0) (0, 0) _ rfl (six_put2 (B := nil0) r2) hd rfl (sz27 nil0)) rfl ?_
  exact ⟨rfl, On.below (six_on _ _ nil0) b2 (by omega) b2.size⟩
set_option maxHeartbeats 4000000 in
set_option maxRecDepth 100000 in
theorem rgone_yes (s : Tm) (w : World) (hr : RV s true) : Ends 20 #[.agg #[.int .i64 s.m, .int .i64 s.t, .int .i64 s.a, .int .i64 s.b, .int .i64 s.c, .int .i64 s.d]] ⟨5, s.t, s.a, s.b, s.c, s.d⟩ 0 w := by
  have HR := Lib.hid hr
  clear hr
  have q1 := (Blk.new w 27 s.cells).alloc (.cells nil0.cells 27)
  have r1 := Blk.new (w.alloc (.cells s.cells 27)) 27 nil0.cells
  simp only [size_alloc] at r1
  have b1 : Below w.heap.size w ((w.alloc (.cells s.cells 27)).alloc (.cells nil0.cells 27)) := ((Below.refl _ _).alloc (Nat.le_refl _) _).alloc (by rw [size_alloc]; omega) _
  go_enter Tryd.func20, Tryd.ntmps20
  go_wp2_with fail
  change Calls _ _ _ ((w.alloc (.cells s.cells 27)).alloc (.cells nil0.cells 27)) _
  generalize (w.alloc (.cells s.cells 27)).alloc (.cells nil0.cells 27) = W1 at q1 r1 b1 ⊢
  refine (HR.out W1).mono ?_
  rintro e w2 ⟨rfl, hb2⟩
  have q2 := q1.below hb2 q1.lt
  have r2 := r1.below hb2 r1.lt
  have b2 := below_next b1 hb2
  clear q1 r1 b1 hb2 HR
  obtain ⟨c0, c1, c2, c3, c4, c5⟩ := six r2
  have y0 := r2.frozen 0
  have y1 := r2.frozen 1
  have y2 := r2.frozen 2
  have y3 := r2.frozen 3
  have y4 := r2.frozen 4
  have y5 := r2.frozen 5
  obtain ⟨g0, g1, g2, g3, g4, g5⟩ := six q2
  have f0 := q2.frozen 0
  have f1 := q2.frozen 1
  have f2 := q2.frozen 2
  have f3 := q2.frozen 3
  have f4 := q2.frozen 4
  have f5 := q2.frozen 5
  go_wp2
  clear c0 c1 c2 c3 c4 c5 y0 y1 y2 y3 y4 y5 g0 g1 g2 g3 g4 g5 f0 f1 f2 f3 f4 f5
  obtain ⟨d, hd⟩ := under27
  refine bodyPost_ret (results_row_tmp rfl _ _ (w.heap.size + 1) 27 (Tm.cells ⟨5, s.t, s.a, s.b, s.c, s.d⟩) (0, 0) _ rfl (six_put2 (B := ⟨5, s.t, s.a, s.b, s.c, s.d⟩) (r2.far (p := ⟨w.heap.size, 0, none⟩) (by simp) (.int .i64 (5)))) hd rfl (sz27 ⟨5, s.t, s.a, s.b, s.c, s.d⟩)) rfl ?_
  exact ⟨rfl, On.below (six_on _ _ ⟨5, s.t, s.a, s.b, s.c, s.d⟩) (b2.setCell (p := ⟨w.heap.size, 0, none⟩) (Nat.le_refl _) (.int .i64 (5))) (by omega) (b2.setCell (p := ⟨w.heap.size, 0, none⟩) (Nat.le_refl _) (.int .i64 (5))).size⟩
set_option maxHeartbeats 4000000 in
set_option maxRecDepth 100000 in
theorem rsame_yes (s : Tm) (w : World) (hr : RV s true) (hc : ¬ s.m < 4) : Ends 18 #[.agg #[.int .i64 s.m, .int .i64 s.t, .int .i64 s.a, .int .i64 s.b, .int .i64 s.c, .int .i64 s.d]] ⟨s.m, s.t, s.a, s.b, s.c, s.d⟩ 0 w := by
  have HR := Lib.hid hr
  clear hr
  have q1 := (Blk.new w 27 s.cells).alloc (.cells nil0.cells 27)
  have r1 := Blk.new (w.alloc (.cells s.cells 27)) 27 nil0.cells
  simp only [size_alloc] at r1
  have b1 : Below w.heap.size w ((w.alloc (.cells s.cells 27)).alloc (.cells nil0.cells 27)) := ((Below.refl _ _).alloc (Nat.le_refl _) _).alloc (by rw [size_alloc]; omega) _
  go_enter Tryd.func18, Tryd.ntmps18
  go_wp2_with fail
  change Calls _ _ _ ((w.alloc (.cells s.cells 27)).alloc (.cells nil0.cells 27)) _
  generalize (w.alloc (.cells s.cells 27)).alloc (.cells nil0.cells 27) = W1 at q1 r1 b1 ⊢
  refine (HR.out W1).mono ?_
  rintro e w2 ⟨rfl, hb2⟩
  have q2 := q1.below hb2 q1.lt
  have r2 := r1.below hb2 r1.lt
  have b2 := below_next b1 hb2
  clear q1 r1 b1 hb2 HR
  obtain ⟨c0, c1, c2, c3, c4, c5⟩ := six r2
  have y0 := r2.frozen 0
  have y1 := r2.frozen 1
  have y2 := r2.frozen 2
  have y3 := r2.frozen 3
  have y4 := r2.frozen 4
  have y5 := r2.frozen 5
  obtain ⟨g0, g1, g2, g3, g4, g5⟩ := six q2
  have f0 := q2.frozen 0
  have f1 := q2.frozen 1
  have f2 := q2.frozen 2
  have f3 := q2.frozen 3
  have f4 := q2.frozen 4
  have f5 := q2.frozen 5
  go_wp2
  clear c0 c1 c2 c3 c4 c5 y0 y1 y2 y3 y4 y5 g0 g1 g2 g3 g4 g5 f0 f1 f2 f3 f4 f5
  obtain ⟨d, hd⟩ := under27
  refine bodyPost_ret (results_row_tmp rfl _ _ (w.heap.size + 1) 27 (Tm.cells ⟨s.m, s.t, s.a, s.b, s.c, s.d⟩) (0, 0) _ rfl (six_put2 (B := ⟨s.m, s.t, s.a, s.b, s.c, s.d⟩) (r2.far (p := ⟨w.heap.size, 0, none⟩) (by simp) (.int .i64 (s.m)))) hd rfl (sz27 ⟨s.m, s.t, s.a, s.b, s.c, s.d⟩)) rfl ?_
  exact ⟨rfl, On.below (six_on _ _ ⟨s.m, s.t, s.a, s.b, s.c, s.d⟩) (b2.setCell (p := ⟨w.heap.size, 0, none⟩) (Nat.le_refl _) (.int .i64 (s.m))) (by omega) (b2.setCell (p := ⟨w.heap.size, 0, none⟩) (Nat.le_refl _) (.int .i64 (s.m))).size⟩
theorem rzeroize (s : Tm) (w : World) : Ends 18 #[.agg #[.int .i64 s.m, .int .i64 s.t, .int .i64 s.a, .int .i64 s.b, .int .i64 s.c, .int .i64 s.d]] (endR s 4).1 (endR s 4).2 w := by
  unfold endR
  by_cases hv : Vld s
  · rw [if_pos hv]
    by_cases h4 : s.m < 4
    · have hm : more s.m 4 = 4 := by unfold more; rw [if_pos h4]
      rw [hm]
      exact rzero_yes s w (rvalid s true (by simp [hv])) h4
    · have hm : more s.m 4 = s.m := by unfold more; rw [if_neg h4]
      rw [hm]
      exact rsame_yes s w (rvalid s true (by simp [hv])) h4
  · rw [if_neg hv]
    exact rzero_no s w (rvalid s false (by simp [hv]))
theorem rdecommission (s : Tm) (w : World) : Ends 20 #[.agg #[.int .i64 s.m, .int .i64 s.t, .int .i64 s.a, .int .i64 s.b, .int .i64 s.c, .int .i64 s.d]] (endR s 5).1 (endR s 5).2 w := by
  unfold endR
  by_cases hv : Vld s
  · rw [if_pos hv]
    have hm : more s.m 5 = 5 := by have := hv.1; unfold more; split <;> omega
    rw [hm]
    exact rgone_yes s w (rvalid s true (by simp [hv]))
  · rw [if_neg hv]
    exact rgone_no s w (rvalid s false (by simp [hv]))
end Go.Proofs.YtjainkepgmdkiaaDoor.Vb
