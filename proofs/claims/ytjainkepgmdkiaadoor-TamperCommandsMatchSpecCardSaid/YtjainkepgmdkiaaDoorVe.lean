/-
  The specification's unlocking. (Written by a program.)
-/
import Derived.Test.YtjainkepgmdkiaaDoorVd
import Derived.Test.YtjainkepgmdkiaaDoorTv
namespace Go.Proofs.YtjainkepgmdkiaaDoor.Ve
open Go.RowKit Go.Proofs.YtjainkepgmdkiaaDoor.B Go.Proofs.YtjainkepgmdkiaaDoor.Ta Go.Proofs.YtjainkepgmdkiaaDoor.Tb Go.Proofs.YtjainkepgmdkiaaDoor.Tc Go.Proofs.YtjainkepgmdkiaaDoor.Tz Go.Proofs.YtjainkepgmdkiaaDoor.Te Go.Proofs.YtjainkepgmdkiaaDoor.Tf Go.Proofs.YtjainkepgmdkiaaDoor.Tg Go.Proofs.YtjainkepgmdkiaaDoor.Th Go.Proofs.YtjainkepgmdkiaaDoor.Ti Go.Proofs.YtjainkepgmdkiaaDoor.Tt Go.Proofs.YtjainkepgmdkiaaDoor.To Go.Proofs.YtjainkepgmdkiaaDoor.Ua Go.Proofs.YtjainkepgmdkiaaDoor.Ud Go.Proofs.YtjainkepgmdkiaaDoor.Va Go.Proofs.YtjainkepgmdkiaaDoor.Vb Go.Proofs.YtjainkepgmdkiaaDoor.Vd Go.Proofs.YtjainkepgmdkiaaDoor.Tv
set_option maxHeartbeats 4000000 in
set_option maxRecDepth 100000 in
theorem u_err (s : Tm) (now : Int) (w : World) (E : Int) (h1 : RC s now E) (z : (E != 0) = true) : Vb.Ends 16 #[.agg #[.int .i64 s.m, .int .i64 s.t, .int .i64 s.a, .int .i64 s.b, .int .i64 s.c, .int .i64 s.d], .int .i64 now] nil0 E w := by
  have H1 := Lib.hid h1
  clear h1
  have q1 := (Blk.new w 27 s.cells).alloc (.cells nil0.cells 27)
  have r1 := Blk.new (w.alloc (.cells s.cells 27)) 27 nil0.cells
  simp only [size_alloc] at r1
  have b1 : Below w.heap.size w ((w.alloc (.cells s.cells 27)).alloc (.cells nil0.cells 27)) := ((Below.refl _ _).alloc (Nat.le_refl _) _).alloc (by rw [size_alloc]; omega) _
  go_enter Tryd.func16, Tryd.ntmps16
  go_wp2_with fail
  change Calls _ _ _ ((w.alloc (.cells s.cells 27)).alloc (.cells nil0.cells 27)) _
  generalize (w.alloc (.cells s.cells 27)).alloc (.cells nil0.cells 27) = W1 at q1 r1 b1 ⊢
  refine (H1.out W1).mono ?_
  rintro e w2 ⟨rfl, hb2⟩
  have q2 := q1.below hb2 q1.lt
  have r2 := r1.below hb2 r1.lt
  have b2 := below_next b1 hb2
  clear q1 r1 b1 hb2 H1
  obtain ⟨c0, c1, c2, c3, c4, c5⟩ := six r2
  have y0 := r2.frozen 0
  have y1 := r2.frozen 1
  have y2 := r2.frozen 2
  have y3 := r2.frozen 3
  have y4 := r2.frozen 4
  have y5 := r2.frozen 5
  go_wp2
  clear c0 c1 c2 c3 c4 c5 y0 y1 y2 y3 y4 y5
  obtain ⟨d, hd⟩ := under27
  refine bodyPost_ret (results_row_tmp rfl _ _ (w.heap.size + 1) 27 (Tm.cells nil0) (0, 0) _ rfl (six_put2 (B := nil0) (r2)) hd rfl (sz27 nil0)) rfl ?_
  exact ⟨rfl, On.below (six_on _ _ nil0) (b2) (by omega) (b2).size⟩
set_option maxHeartbeats 4000000 in
set_option maxRecDepth 100000 in
theorem u_over (s : Tm) (now : Int) (w : World) (h1 : RC s now 0) (h2 : RO s true) : Vb.Ends 16 #[.agg #[.int .i64 s.m, .int .i64 s.t, .int .i64 s.a, .int .i64 s.b, .int .i64 s.c, .int .i64 s.d], .int .i64 now] nil0 19 w := by
  have H1 := Lib.hid h1
  have H2 := Lib.hid h2
  clear h1 h2
  have q1 := (Blk.new w 27 s.cells).alloc (.cells nil0.cells 27)
  have r1 := Blk.new (w.alloc (.cells s.cells 27)) 27 nil0.cells
  simp only [size_alloc] at r1
  have b1 : Below w.heap.size w ((w.alloc (.cells s.cells 27)).alloc (.cells nil0.cells 27)) := ((Below.refl _ _).alloc (Nat.le_refl _) _).alloc (by rw [size_alloc]; omega) _
  go_enter Tryd.func16, Tryd.ntmps16
  go_wp2_with fail
  change Calls _ _ _ ((w.alloc (.cells s.cells 27)).alloc (.cells nil0.cells 27)) _
  generalize (w.alloc (.cells s.cells 27)).alloc (.cells nil0.cells 27) = W1 at q1 r1 b1 ⊢
  refine (H1.out W1).mono ?_
  rintro e w2 ⟨rfl, hb2⟩
  have q2 := q1.below hb2 q1.lt
  have r2 := r1.below hb2 r1.lt
  have b2 := below_next b1 hb2
  clear q1 r1 b1 hb2 H1
  obtain ⟨c0, c1, c2, c3, c4, c5⟩ := six q2
  go_wp2_with fail
  refine (H2.out _).mono ?_
  rintro e w3 ⟨rfl, hb3⟩
  have q3 := q2.below hb3 q2.lt
  have r3 := r2.below hb3 r2.lt
  have b3 := below_next b2 hb3
  clear c0 c1 c2 c3 c4 c5 q2 r2 b2 hb3 H2
  obtain ⟨c0, c1, c2, c3, c4, c5⟩ := six r3
  have y0 := r3.frozen 0
  have y1 := r3.frozen 1
  have y2 := r3.frozen 2
  have y3 := r3.frozen 3
  have y4 := r3.frozen 4
  have y5 := r3.frozen 5
  go_wp2
  clear c0 c1 c2 c3 c4 c5 y0 y1 y2 y3 y4 y5
  obtain ⟨d, hd⟩ := under27
  refine bodyPost_ret (results_row_tmp rfl _ _ (w.heap.size + 1) 27 (Tm.cells nil0) (0, 0) _ rfl (six_put2 (B := nil0) (r3)) hd rfl (sz27 nil0)) rfl ?_
  exact ⟨rfl, On.below (six_on _ _ nil0) (b3) (by omega) (b3).size⟩
set_option maxHeartbeats 4000000 in
set_option maxRecDepth 100000 in
theorem u_free (s : Tm) (now : Int) (w : World) (T : Tm) (h1 : RC s now 0) (h2 : RO s false) (h3 : RP s now T) (z : (T.m != 3) = true) : Vb.Ends 16 #[.agg #[.int .i64 s.m, .int .i64 s.t, .int .i64 s.a, .int .i64 s.b, .int .i64 s.c, .int .i64 s.d], .int .i64 now] nil0 11 w := by
  have H1 := Lib.hid h1
  have H2 := Lib.hid h2
  have H3 := Lib.hid h3
  clear h1 h2 h3
  have q1 := (Blk.new w 27 s.cells).alloc (.cells nil0.cells 27)
  have r1 := Blk.new (w.alloc (.cells s.cells 27)) 27 nil0.cells
  simp only [size_alloc] at r1
  have b1 : Below w.heap.size w ((w.alloc (.cells s.cells 27)).alloc (.cells nil0.cells 27)) := ((Below.refl _ _).alloc (Nat.le_refl _) _).alloc (by rw [size_alloc]; omega) _
  go_enter Tryd.func16, Tryd.ntmps16
  go_wp2_with fail
  change Calls _ _ _ ((w.alloc (.cells s.cells 27)).alloc (.cells nil0.cells 27)) _
  generalize (w.alloc (.cells s.cells 27)).alloc (.cells nil0.cells 27) = W1 at q1 r1 b1 ⊢
  refine (H1.out W1).mono ?_
  rintro e w2 ⟨rfl, hb2⟩
  have q2 := q1.below hb2 q1.lt
  have r2 := r1.below hb2 r1.lt
  have b2 := below_next b1 hb2
  clear q1 r1 b1 hb2 H1
  obtain ⟨c0, c1, c2, c3, c4, c5⟩ := six q2
  go_wp2_with fail
  refine (H2.out _).mono ?_
  rintro e w3 ⟨rfl, hb3⟩
  have q3 := q2.below hb3 q2.lt
  have r3 := r2.below hb3 r2.lt
  have b3 := below_next b2 hb3
  clear c0 c1 c2 c3 c4 c5 q2 r2 b2 hb3 H2
  obtain ⟨c0, c1, c2, c3, c4, c5⟩ := six q3
  go_wp2_with fail
  refine (H3.out _).mono ?_
  rintro e w4 ⟨rfl, hb4⟩
  have q4 := q3.below hb4 q3.lt
  have r4 := r3.below hb4 r3.lt
  have b4 := below_next b3 hb4
  clear c0 c1 c2 c3 c4 c5 q3 r3 b3 hb4 H3
  obtain ⟨c0, c1, c2, c3, c4, c5⟩ := six q4
  have f0 := q4.frozen 0
  have f1 := q4.frozen 1
  have f2 := q4.frozen 2
  have f3 := q4.frozen 3
  have f4 := q4.frozen 4
  have f5 := q4.frozen 5
  obtain ⟨g0, g1, g2, g3, g4, g5⟩ := six r4
  have y0 := r4.frozen 0
  have y1 := r4.frozen 1
  have y2 := r4.frozen 2
  have y3 := r4.frozen 3
  have y4 := r4.frozen 4
  have y5 := r4.frozen 5
  go_wp2
  clear c0 c1 c2 c3 c4 c5 f0 f1 f2 f3 f4 f5 g0 g1 g2 g3 g4 g5 y0 y1 y2 y3 y4 y5
  obtain ⟨d, hd⟩ := under27
  refine bodyPost_ret (results_row_tmp rfl _ _ (w.heap.size + 1) 27 (Tm.cells nil0) (0, 0) _ rfl (six_put2 (B := nil0) (Tz.Blk.on r4 (six_on _ _ T) (by omega))) hd rfl (sz27 nil0)) rfl ?_
  exact ⟨rfl, On.below (six_on _ _ nil0) (On.below (six_on _ _ T) b4 (Nat.le_refl _) b4.size) (by omega) (On.below (six_on _ _ T) b4 (Nat.le_refl _) b4.size).size⟩
set_option maxHeartbeats 4000000 in
set_option maxRecDepth 100000 in
theorem u_hot (s : Tm) (now : Int) (w : World) (T : Tm) (h1 : RC s now 0) (h2 : RO s false) (h3 : RP s now T) (n : Int) (h4 : RT T n) (z : (T.m != 3) = false) (zn : (n != 0) = true) : Vb.Ends 16 #[.agg #[.int .i64 s.m, .int .i64 s.t, .int .i64 s.a, .int .i64 s.b, .int .i64 s.c, .int .i64 s.d], .int .i64 now] nil0 18 w := by
  have H1 := Lib.hid h1
  have H2 := Lib.hid h2
  have H3 := Lib.hid h3
  have H4 := Lib.hid h4
  clear h1 h2 h3 h4
  have q1 := (Blk.new w 27 s.cells).alloc (.cells nil0.cells 27)
  have r1 := Blk.new (w.alloc (.cells s.cells 27)) 27 nil0.cells
  simp only [size_alloc] at r1
  have b1 : Below w.heap.size w ((w.alloc (.cells s.cells 27)).alloc (.cells nil0.cells 27)) := ((Below.refl _ _).alloc (Nat.le_refl _) _).alloc (by rw [size_alloc]; omega) _
  go_enter Tryd.func16, Tryd.ntmps16
  go_wp2_with fail
  change Calls _ _ _ ((w.alloc (.cells s.cells 27)).alloc (.cells nil0.cells 27)) _
  generalize (w.alloc (.cells s.cells 27)).alloc (.cells nil0.cells 27) = W1 at q1 r1 b1 ⊢
  refine (H1.out W1).mono ?_
  rintro e w2 ⟨rfl, hb2⟩
  have q2 := q1.below hb2 q1.lt
  have r2 := r1.below hb2 r1.lt
  have b2 := below_next b1 hb2
  clear q1 r1 b1 hb2 H1
  obtain ⟨c0, c1, c2, c3, c4, c5⟩ := six q2
  go_wp2_with fail
  refine (H2.out _).mono ?_
  rintro e w3 ⟨rfl, hb3⟩
  have q3 := q2.below hb3 q2.lt
  have r3 := r2.below hb3 r2.lt
  have b3 := below_next b2 hb3
  clear c0 c1 c2 c3 c4 c5 q2 r2 b2 hb3 H2
  obtain ⟨c0, c1, c2, c3, c4, c5⟩ := six q3
  go_wp2_with fail
  refine (H3.out _).mono ?_
  rintro e w4 ⟨rfl, hb4⟩
  have q4 := q3.below hb4 q3.lt
  have r4 := r3.below hb4 r3.lt
  have b4 := below_next b3 hb4
  clear c0 c1 c2 c3 c4 c5 q3 r3 b3 hb4 H3
  obtain ⟨c0, c1, c2, c3, c4, c5⟩ := six q4
  have f0 := q4.frozen 0
  have f1 := q4.frozen 1
  have f2 := q4.frozen 2
  have f3 := q4.frozen 3
  have f4 := q4.frozen 4
  have f5 := q4.frozen 5
  go_wp2_with fail
  have p4 : Blk (six0 w4 w.heap.size T) w.heap.size 27 T.cells := six_put2 q4
  have s4 : Blk (six0 w4 w.heap.size T) (w.heap.size + 1) 27 nil0.cells := Tz.Blk.on r4 (six_on _ _ T) (by omega)
  have d4 : Below w.heap.size w (six0 w4 w.heap.size T) := On.below (six_on _ _ T) b4 (Nat.le_refl _) b4.size
  refine (H4.out (six0 w4 w.heap.size T)).mono ?_
  rintro e w5 ⟨rfl, hb5⟩
  have q5 := p4.below hb5 p4.lt
  have r5 := s4.below hb5 s4.lt
  have b5 := below_next d4 hb5
  clear c0 c1 c2 c3 c4 c5 f0 f1 f2 f3 f4 f5 q4 r4 b4 p4 s4 d4 hb5 H4
  obtain ⟨g0, g1, g2, g3, g4, g5⟩ := six r5
  have y0 := r5.frozen 0
  have y1 := r5.frozen 1
  have y2 := r5.frozen 2
  have y3 := r5.frozen 3
  have y4 := r5.frozen 4
  have y5 := r5.frozen 5
  go_wp2
  clear g0 g1 g2 g3 g4 g5 y0 y1 y2 y3 y4 y5
  obtain ⟨d, hd⟩ := under27
  refine bodyPost_ret (results_row_tmp rfl _ _ (w.heap.size + 1) 27 (Tm.cells nil0) (0, 0) _ rfl (six_put2 (B := nil0) (r5)) hd rfl (sz27 nil0)) rfl ?_
  exact ⟨rfl, On.below (six_on _ _ nil0) (b5) (by omega) (b5).size⟩
set_option maxHeartbeats 4000000 in
set_option maxRecDepth 100000 in
theorem u_ok (s : Tm) (now : Int) (w : World) (T : Tm) (h1 : RC s now 0) (h2 : RO s false) (h3 : RP s now T) (n : Int) (h4 : RT T n) (z : (T.m != 3) = false) (zn : (n != 0) = false) : Vb.Ends 16 #[.agg #[.int .i64 s.m, .int .i64 s.t, .int .i64 s.a, .int .i64 s.b, .int .i64 s.c, .int .i64 s.d], .int .i64 now] ⟨1, T.t, T.a, T.b, T.c, T.d⟩ 0 w := by
  have H1 := Lib.hid h1
  have H2 := Lib.hid h2
  have H3 := Lib.hid h3
  have H4 := Lib.hid h4
  clear h1 h2 h3 h4
  have q1 := (Blk.new w 27 s.cells).alloc (.cells nil0.cells 27)
  have r1 := Blk.new (w.alloc (.cells s.cells 27)) 27 nil0.cells
  simp only [size_alloc] at r1
  have b1 : Below w.heap.size w ((w.alloc (.cells s.cells 27)).alloc (.cells nil0.cells 27)) := ((Below.refl _ _).alloc (Nat.le_refl _) _).alloc (by rw [size_alloc]; omega) _
  go_enter Tryd.func16, Tryd.ntmps16
  go_wp2_with fail
  change Calls _ _ _ ((w.alloc (.cells s.cells 27)).alloc (.cells nil0.cells 27)) _
  generalize (w.alloc (.cells s.cells 27)).alloc (.cells nil0.cells 27) = W1 at q1 r1 b1 ⊢
  refine (H1.out W1).mono ?_
  rintro e w2 ⟨rfl, hb2⟩
  have q2 := q1.below hb2 q1.lt
  have r2 := r1.below hb2 r1.lt
  have b2 := below_next b1 hb2
  clear q1 r1 b1 hb2 H1
  obtain ⟨c0, c1, c2, c3, c4, c5⟩ := six q2
  go_wp2_with fail
  refine (H2.out _).mono ?_
  rintro e w3 ⟨rfl, hb3⟩
  have q3 := q2.below hb3 q2.lt
  have r3 := r2.below hb3 r2.lt
  have b3 := below_next b2 hb3
  clear c0 c1 c2 c3 c4 c5 q2 r2 b2 hb3 H2
  obtain ⟨c0, c1, c2, c3, c4, c5⟩ := six q3
  go_wp2_with fail
  refine (H3.out _).mono ?_
  rintro e w4 ⟨rfl, hb4⟩
  have q4 := q3.below hb4 q3.lt
  have r4 := r3.below hb4 r3.lt
  have b4 := below_next b3 hb4
  clear c0 c1 c2 c3 c4 c5 q3 r3 b3 hb4 H3
  obtain ⟨c0, c1, c2, c3, c4, c5⟩ := six q4
  have f0 := q4.frozen 0
  have f1 := q4.frozen 1
  have f2 := q4.frozen 2
  have f3 := q4.frozen 3
  have f4 := q4.frozen 4
  have f5 := q4.frozen 5
  go_wp2_with fail
  have p4 : Blk (six0 w4 w.heap.size T) w.heap.size 27 T.cells := six_put2 q4
  have s4 : Blk (six0 w4 w.heap.size T) (w.heap.size + 1) 27 nil0.cells := Tz.Blk.on r4 (six_on _ _ T) (by omega)
  have d4 : Below w.heap.size w (six0 w4 w.heap.size T) := On.below (six_on _ _ T) b4 (Nat.le_refl _) b4.size
  refine (H4.out (six0 w4 w.heap.size T)).mono ?_
  rintro e w5 ⟨rfl, hb5⟩
  have q5 := p4.below hb5 p4.lt
  have r5 := s4.below hb5 s4.lt
  have b5 := below_next d4 hb5
  clear c0 c1 c2 c3 c4 c5 f0 f1 f2 f3 f4 f5 q4 r4 b4 p4 s4 d4 hb5 H4
  obtain ⟨c0, c1, c2, c3, c4, c5⟩ := six q5
  have f0 := q5.frozen 0
  have f1 := q5.frozen 1
  have f2 := q5.frozen 2
  have f3 := q5.frozen 3
  have f4 := q5.frozen 4
  have f5 := q5.frozen 5
  obtain ⟨g0, g1, g2, g3, g4, g5⟩ := six r5
  have y0 := r5.frozen 0
  have y1 := r5.frozen 1
  have y2 := r5.frozen 2
  have y3 := r5.frozen 3
  have y4 := r5.frozen 4
  have y5 := r5.frozen 5
  go_wp2
  clear c0 c1 c2 c3 c4 c5 f0 f1 f2 f3 f4 f5 g0 g1 g2 g3 g4 g5 y0 y1 y2 y3 y4 y5
  obtain ⟨d, hd⟩ := under27
  refine bodyPost_ret (results_row_tmp rfl _ _ (w.heap.size + 1) 27 (Tm.cells ⟨1, T.t, T.a, T.b, T.c, T.d⟩) (0, 0) _ rfl (six_put2 (B := ⟨1, T.t, T.a, T.b, T.c, T.d⟩) (r5.far (p := ⟨w.heap.size, 0, none⟩) (by simp) (.int .i64 1))) hd rfl (sz27 ⟨1, T.t, T.a, T.b, T.c, T.d⟩)) rfl ?_
  exact ⟨rfl, On.below (six_on _ _ ⟨1, T.t, T.a, T.b, T.c, T.d⟩) (b5.setCell (p := ⟨w.heap.size, 0, none⟩) (Nat.le_refl _) (.int .i64 1)) (by omega) (b5.setCell (p := ⟨w.heap.size, 0, none⟩) (Nat.le_refl _) (.int .i64 1)).size⟩
theorem runlock (s : Tm) (now : Int) (w : World) : Vb.Ends 16 #[.agg #[.int .i64 s.m, .int .i64 s.t, .int .i64 s.a, .int .i64 s.b, .int .i64 s.c, .int .i64 s.d], .int .i64 now] (unlR s now).1 (unlR s now).2 w := by
  have hc := rcheck s now
  unfold unlR
  by_cases hE : (passR s now).2 = 0
  · rw [if_neg (by simp [hE])]
    rw [hE] at hc
    obtain ⟨hv, h0, h1, h2, hp⟩ := pass_good hE
    have hs := pass_scores hE
    rw [hp] at hs ⊢
    by_cases h4 : s.m < 4
    · have hm : (pst s now).m < 4 := by
        have := pst_mode s now
        omega
      rw [if_neg (by omega)]
      have ho := rover s false (decide_eq_false (by omega))
      have hq := rpassed hv h4 h2 h1
      by_cases h3 : (pst s now).m = 3
      · rw [if_neg (by simp [h3])]
        by_cases ht : tot (pst s now) = 0
        · rw [if_neg (by simp [ht])]
          exact u_ok s now w _ hc ho hq _ (rtotal _ hs) (by simp [h3]) (by simp [ht])
        · rw [if_pos ht]
          exact u_hot s now w _ hc ho hq _ (rtotal _ hs) (by simp [h3]) (by simp [ht])
      · rw [if_pos h3]
        exact u_free s now w _ hc ho hq (by simp [h3])
    · have hm : pst s now = s := by unfold pst; rw [if_neg h4]
      rw [hm, if_pos (by omega)]
      exact u_over s now w hc (rover s true (decide_eq_true (by omega)))
  · rw [if_pos hE]
    exact u_err s now w _ hc (by simp [hE])
end Go.Proofs.YtjainkepgmdkiaaDoor.Ve
