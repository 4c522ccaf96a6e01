/-
  A module never calms down by itself: the law's walk.
-/
import Derived.Test.YtjainkepgmdkiaaDoorUa
import Derived.Test.YtjainkepgmdkiaaDoorTv
namespace Go.Proofs.YtjainkepgmdkiaaDoor.Uc
open Go.RowKit Go.Proofs.YtjainkepgmdkiaaDoor.B Go.Proofs.YtjainkepgmdkiaaDoor.E Go.Proofs.YtjainkepgmdkiaaDoor.Ta Go.Proofs.YtjainkepgmdkiaaDoor.Tb Go.Proofs.YtjainkepgmdkiaaDoor.Tc Go.Proofs.YtjainkepgmdkiaaDoor.Tz Go.Proofs.YtjainkepgmdkiaaDoor.Te Go.Proofs.YtjainkepgmdkiaaDoor.Tf Go.Proofs.YtjainkepgmdkiaaDoor.Tg Go.Proofs.YtjainkepgmdkiaaDoor.Th Go.Proofs.YtjainkepgmdkiaaDoor.Ti Go.Proofs.YtjainkepgmdkiaaDoor.Tj Go.Proofs.YtjainkepgmdkiaaDoor.Ts Go.Proofs.YtjainkepgmdkiaaDoor.Tt Go.Proofs.YtjainkepgmdkiaaDoor.Tv Go.Proofs.YtjainkepgmdkiaaDoor.Ua
/-- Four states in four blocks. -/
def Four (w : World) (gs ga gb gc : Nat) (s A B C : Tm) : Prop := Blk w gs 27 s.cells ∧ Blk w ga 27 A.cells ∧ Blk w gb 27 B.cells ∧ Blk w gc 27 C.cells
section
variable {w w' : World} {gs ga gb gc : Nat} {s A B C : Tm}
theorem Four.next (h : Four w gs ga gb gc s A B C) (hb : Below w.heap.size w w') : Four w' gs ga gb gc s A B C := ⟨h.1.below hb h.1.lt, h.2.1.below hb h.2.1.lt, h.2.2.1.below hb h.2.2.1.lt, h.2.2.2.below hb h.2.2.2.lt⟩
theorem Four.facts (h : Four w gs ga gb gc s A B C) : w.cell? ⟨gs, 0, none⟩ = some (.int .i64 s.m) ∧ w.cell? ⟨ga, 0, none⟩ = some (.int .i64 A.m) ∧ w.cell? ⟨ga, 1, none⟩ = some (.int .i64 A.t) ∧ w.cell? ⟨ga, 2, none⟩ = some (.int .i64 A.a) ∧ w.cell? ⟨ga, 3, none⟩ = some (.int .i64 A.b) ∧ w.cell? ⟨ga, 4, none⟩ = some (.int .i64 A.c) ∧ w.cell? ⟨ga, 5, none⟩ = some (.int .i64 A.d) ∧ w.cell? ⟨gb, 0, none⟩ = some (.int .i64 B.m) ∧ w.cell? ⟨gb, 1, none⟩ = some (.int .i64 B.t) ∧ w.cell? ⟨gb, 2, none⟩ = some (.int .i64 B.a) ∧ w.cell? ⟨gb, 3, none⟩ = some (.int .i64 B.b) ∧ w.cell? ⟨gb, 4, none⟩ = some (.int .i64 B.c) ∧ w.cell? ⟨gb, 5, none⟩ = some (.int .i64 B.d) ∧ w.cell? ⟨gc, 0, none⟩ = some (.int .i64 C.m) ∧ w.cell? ⟨gc, 1, none⟩ = some (.int .i64 C.t) ∧ w.cell? ⟨gc, 2, none⟩ = some (.int .i64 C.a) ∧ w.cell? ⟨gc, 3, none⟩ = some (.int .i64 C.b) ∧ w.cell? ⟨gc, 4, none⟩ = some (.int .i64 C.c) ∧ w.cell? ⟨gc, 5, none⟩ = some (.int .i64 C.d) :=
  ⟨h.1.cell 0, h.2.1.cell 0, h.2.1.cell 1, h.2.1.cell 2, h.2.1.cell 3, h.2.1.cell 4, h.2.1.cell 5, h.2.2.1.cell 0, h.2.2.1.cell 1, h.2.2.1.cell 2, h.2.2.1.cell 3, h.2.2.1.cell 4, h.2.2.1.cell 5, h.2.2.2.cell 0, h.2.2.2.cell 1, h.2.2.2.cell 2, h.2.2.2.cell 3, h.2.2.2.cell 4, h.2.2.2.cell 5⟩
end
abbrev StepIs (s : Tm) (sn lv now : Int) (T : Tm) (E : Int) : Prop := ∀ W, Gl W → Calls Tryd.prog 11 #[.agg #[.int .i64 s.m, .int .i64 s.t, .int .i64 s.a, .int .i64 s.b, .int .i64 s.c, .int .i64 s.d], .agg #[.int .i64 sn, .int .i64 lv], .int .i64 now] W fun e w' => e = .returned (.tuple #[.agg #[.int .i64 T.m, .int .i64 T.t, .int .i64 T.a, .int .i64 T.b, .int .i64 T.c, .int .i64 T.d], .int .i64 E]) ∧ Below W.heap.size W w'
abbrev UnlIs (s : Tm) (now : Int) (T : Tm) (E : Int) : Prop := ∀ W, Gl W → Calls Tryd.prog 15 #[.agg #[.int .i64 s.m, .int .i64 s.t, .int .i64 s.a, .int .i64 s.b, .int .i64 s.c, .int .i64 s.d], .int .i64 now] W fun e w' => e = .returned (.tuple #[.agg #[.int .i64 T.m, .int .i64 T.t, .int .i64 T.a, .int .i64 T.b, .int .i64 T.c, .int .i64 T.d], .int .i64 E]) ∧ Below W.heap.size W w'
abbrev ValidIs (s : Tm) (b : Bool) : Prop := ∀ W, Calls Tryd.prog 22 #[.agg #[.int .i64 s.m, .int .i64 s.t, .int .i64 s.a, .int .i64 s.b, .int .i64 s.c, .int .i64 s.d]] W fun e w' => e = .returned (.bool b) ∧ Below W.heap.size W w'
abbrev TotalIs (s : Tm) (n : Int) : Prop := ∀ W, Calls Tryd.prog 13 #[.agg #[.int .i64 s.m, .int .i64 s.t, .int .i64 s.a, .int .i64 s.b, .int .i64 s.c, .int .i64 s.d]] W fun e w' => e = .returned (.int .i64 n) ∧ Below W.heap.size W w'
theorem step_is (s : Tm) (sn lv now : Int) : StepIs s sn lv now (stepR s sn lv now).1 (stepR s sn lv now).2 := fun W h => step_c s sn lv now W h
theorem unl_is (s : Tm) (now : Int) : UnlIs s now (unlR s now).1 (unlR s now).2 := fun W h => unl_c s now W h
theorem valid_is {s : Tm} (h : Vld s) : ValidIs s true := fun W => valid_yes s W h
theorem valid_not {s : Tm} (h : ¬ Vld s) : ValidIs s false := fun W => valid_no s W h
theorem total_is {s : Tm} (h : Scores s) : TotalIs s (tot s) := fun W => total_walk s W h
set_option maxHeartbeats 4000000 in
set_option maxRecDepth 100000 in
theorem calm_out (s : Tm) (sn lv now : Int) (w : World) (hG : Gl w) (hv : ValidIs s false) : LawIs 6 #[.agg s.cells, .agg #[.int .i64 sn, .int .i64 lv], .int .i64 now] w := by
  have q1 := (Blk.new w 27 s.cells).alloc (.cells #[.int .i64 sn, .int .i64 lv] 35)
  have b1 : Below w.heap.size w ((w.alloc (.cells s.cells 27)).alloc (.cells #[.int .i64 sn, .int .i64 lv] 35)) := ((Below.refl _ _).alloc (Nat.le_refl _) _).alloc (by rw [size_alloc]; omega) _
  have G1 := (hG.alloc (.cells s.cells 27)).alloc (.cells #[.int .i64 sn, .int .i64 lv] 35)
  have HV := Lib.hid hv
  clear hG hv
  change Calls Tryd.prog 6 #[.agg #[.int .i64 s.m, .int .i64 s.t, .int .i64 s.a, .int .i64 s.b, .int .i64 s.c, .int .i64 s.d], .agg #[.int .i64 sn, .int .i64 lv], .int .i64 now] w _
  go_enter Tryd.func6, Tryd.ntmps6
  go_wp2_with fail
  change Calls _ _ _ ((w.alloc (.cells s.cells 27)).alloc (.cells #[.int .i64 sn, .int .i64 lv] 35)) _
  generalize (w.alloc (.cells s.cells 27)).alloc (.cells #[.int .i64 sn, .int .i64 lv] 35) = W1 at q1 b1 G1 ⊢
  refine (sanity_walk W1 G1).mono ?_
  rintro e w2 ⟨rfl, hb2⟩
  have q2 := q1.below hb2 q1.lt
  have b2 := below_next b1 hb2
  clear q1 b1 G1 hb2
  obtain ⟨c0, c1, c2, c3, c4, c5⟩ := six q2
  go_wp2_with fail
  refine (HV.out w2).mono ?_
  rintro e w3 ⟨rfl, hb3⟩
  have b3 := below_next b2 hb3
  clear c0 c1 c2 c3 c4 c5 q2 b2 hb3
  go_wp2
  go_ret
  exact ⟨rfl, b3⟩
set_option maxHeartbeats 16000000 in
set_option maxRecDepth 100000 in
theorem calm_in (s A B C : Tm) (sn lv now f g h : Int) (w : World) (hG : Gl w) (hv : ValidIs s true) (h1 : StepIs s sn lv now A f) (h2 : PassIs s now B g) (h3 : UnlIs s now C h)
    (vA : f = 0 → ValidIs A true) (tA : f = 0 → TotalIs A (tot A)) (vB : g = 0 → ValidIs B true) (tB : g = 0 → TotalIs B (tot B)) (tC : h = 0 → TotalIs C (tot C))
    (hA : f ≠ 0 ∨ (f = 0 ∧ s.m ≤ A.m) ∨ (f = 0 ∧ s.m = 2 ∧ A.m = 1 ∧ tot A = 0)) (hB : g ≠ 0 ∨ (g = 0 ∧ B.m = s.m) ∨ (g = 0 ∧ s.m = 2 ∧ B.m = 1 ∧ tot B = 0)) (hC : h ≠ 0 ∨ (h = 0 ∧ s.m = 3 ∧ C.m = 1 ∧ tot C = 0)) :
    LawIs 6 #[.agg s.cells, .agg #[.int .i64 sn, .int .i64 lv], .int .i64 now] w := by
  have q1 := (Blk.new w 27 s.cells).alloc (.cells #[.int .i64 sn, .int .i64 lv] 35)
  have r1 := Blk.new (w.alloc (.cells s.cells 27)) 35 #[.int .i64 sn, .int .i64 lv]
  simp only [size_alloc] at r1
  have b1 : Below w.heap.size w ((w.alloc (.cells s.cells 27)).alloc (.cells #[.int .i64 sn, .int .i64 lv] 35)) := ((Below.refl _ _).alloc (Nat.le_refl _) _).alloc (by rw [size_alloc]; omega) _
  have G1 := (hG.alloc (.cells s.cells 27)).alloc (.cells #[.int .i64 sn, .int .i64 lv] 35)
  have HV := Lib.hid hv
  have H1 := Lib.hid h1
  have H2 := Lib.hid h2
  have H3 := Lib.hid h3
  have VA := Lib.hid vA
  have TA := Lib.hid tA
  have VB := Lib.hid vB
  have TB := Lib.hid tB
  have TC := Lib.hid tC
  have CA := Lib.hid hA
  have CB := Lib.hid hB
  have CC := Lib.hid hC
  clear hG hv h1 h2 h3 vA tA vB tB tC hA hB hC
  change Calls Tryd.prog 6 #[.agg #[.int .i64 s.m, .int .i64 s.t, .int .i64 s.a, .int .i64 s.b, .int .i64 s.c, .int .i64 s.d], .agg #[.int .i64 sn, .int .i64 lv], .int .i64 now] w _
  go_enter Tryd.func6, Tryd.ntmps6
  go_wp2_with fail
  change Calls _ _ _ ((w.alloc (.cells s.cells 27)).alloc (.cells #[.int .i64 sn, .int .i64 lv] 35)) _
  generalize (w.alloc (.cells s.cells 27)).alloc (.cells #[.int .i64 sn, .int .i64 lv] 35) = W1 at q1 r1 b1 G1 ⊢
  refine (sanity_walk W1 G1).mono ?_
  rintro e w2 ⟨rfl, hb2⟩
  have q2 := q1.below hb2 q1.lt
  have r2 := r1.below hb2 r1.lt
  have G2 := G1.next hb2
  have b2 := below_next b1 hb2
  clear q1 r1 b1 G1 hb2
  obtain ⟨c0, c1, c2, c3, c4, c5⟩ := six q2
  go_wp2_with fail
  refine (HV.out w2).mono ?_
  rintro e w3 ⟨rfl, hb3⟩
  have q3 := q2.below hb3 q2.lt
  have r3 := r2.below hb3 r2.lt
  have G3 := G2.next hb3
  have b3 := below_next b2 hb3
  clear c0 c1 c2 c3 c4 c5 q2 r2 G2 b2 hb3
  obtain ⟨c0, c1, c2, c3, c4, c5⟩ := six q3
  have e0 : w3.cell? ⟨w.heap.size + 1, 0, none⟩ = some (.int .i64 sn) := r3.cell 0
  have e1 : w3.cell? ⟨w.heap.size + 1, 1, none⟩ = some (.int .i64 lv) := r3.cell 1
  go_wp2_with fail
  refine (H1.out w3 G3).mono ?_
  rintro e w4 ⟨rfl, hb4⟩
  have q4 := q3.below hb4 q3.lt
  have G4 := G3.next hb4
  have b4 := below_next b3 hb4
  clear c0 c1 c2 c3 c4 c5 e0 e1 q3 r3 G3 b3 hb4
  have lq := q4.lt
  obtain ⟨c0, c1, c2, c3, c4, c5⟩ := six q4
  go_wp2_with fail
  change Calls _ _ _ (w4.alloc (.cells A.cells 27)) _
  have q5 := q4.alloc (.cells A.cells 27)
  have a5 := Blk.new w4 27 A.cells
  have G5 := G4.alloc (.cells A.cells 27)
  have b5 := b4.alloc b4.size (.cells A.cells 27)
  generalize w4.alloc (.cells A.cells 27) = W5 at q5 a5 G5 b5 ⊢
  clear c0 c1 c2 c3 c4 c5 q4 G4 b4 lq
  refine (H2.out W5 G5).mono ?_
  rintro e w6 ⟨rfl, hb6⟩
  have q6 := q5.below hb6 q5.lt
  have a6 := a5.below hb6 a5.lt
  have G6 := G5.next hb6
  have b6 := below_next b5 hb6
  clear q5 a5 G5 b5 hb6
  have lq := q6.lt
  obtain ⟨c0, c1, c2, c3, c4, c5⟩ := six q6
  go_wp2_with fail
  change Calls _ _ _ (w6.alloc (.cells B.cells 27)) _
  have q7 := q6.alloc (.cells B.cells 27)
  have a7 := a6.alloc (.cells B.cells 27)
  have p7 := Blk.new w6 27 B.cells
  have G7 := G6.alloc (.cells B.cells 27)
  have b7 := b6.alloc b6.size (.cells B.cells 27)
  generalize w6.alloc (.cells B.cells 27) = W7 at q7 a7 p7 G7 b7 ⊢
  clear c0 c1 c2 c3 c4 c5 q6 a6 G6 b6 lq
  refine (H3.out W7 G7).mono ?_
  rintro e w8 ⟨rfl, hb8⟩
  have F0 : Four (w8.alloc (.cells C.cells 27)) w.heap.size w4.heap.size w6.heap.size w8.heap.size s A B C := ⟨(q7.below hb8 q7.lt).alloc _, (a7.below hb8 a7.lt).alloc _, (p7.below hb8 p7.lt).alloc _, Blk.new w8 27 C.cells⟩
  have b8 := below_next b7 hb8
  have hb := b8.alloc b8.size (.cells C.cells 27)
  have F8 : Blk w8 w.heap.size 27 s.cells ∧ Blk w8 w4.heap.size 27 A.cells ∧ Blk w8 w6.heap.size 27 B.cells := ⟨q7.below hb8 q7.lt, a7.below hb8 a7.lt, p7.below hb8 p7.lt⟩
  clear q7 a7 p7 G7 b7 b8 hb8
  obtain ⟨k0, _, _, _, _, _⟩ := six F8.1
  obtain ⟨a0, a1, a2, a3, a4, a5⟩ := six F8.2.1
  obtain ⟨b0, b1, b2, b3, b4, b5⟩ := six F8.2.2
  have n1 := F8.1.lt
  have n2 := F8.2.1.lt
  have n3 := F8.2.2.lt
  clear F8
  have hA := CA.out
  have hB := CB.out
  have hC := CC.out
  clear CA CB CC
  rcases hA with hA | hA | hA
  · rcases hB with hB | hB | hB
    · rcases hC with hC | hC
      · have zA : (f != 0) = true := by simp [hA]
        clear hA
        have zB : (g != 0) = true := by simp [hB]
        clear hB
        have zC : (h != 0) = true := by simp [hC]
        clear hC
        go_wp2
        go_ret
        exact ⟨rfl, hb⟩
      · have zA : (f != 0) = true := by simp [hA]
        clear hA
        have zB : (g != 0) = true := by simp [hB]
        clear hB
        have zC : (h != 0) = false := by simp [hC.1]
        have sC : (s.m == 3) = true := by simp [hC.2.1]
        have mC : (C.m == 1) = true := by simp [hC.2.2.1]
        have fC := Lib.hid hC.1
        have tC' := TC.out fC.out
        rw [hC.2.2.2] at tC'
        have TC' := Lib.hid tC'
        clear hC tC'
        go_wp2_with fail
        refine (TC'.out _).mono ?_
        rintro e w9 ⟨rfl, hx⟩
        have F := F0.next hx
        replace hb := below_next hb hx
        clear hx F0 k0 a0 a1 a2 a3 a4 a5 b0 b1 b2 b3 b4 b5 n1 n2 n3
        obtain ⟨k0, a0, a1, a2, a3, a4, a5, b0, b1, b2, b3, b4, b5, c0, c1, c2, c3, c4, c5⟩ := F.facts
        go_wp2
        go_ret
        exact ⟨rfl, hb⟩
    · rcases hC with hC | hC
      · have zA : (f != 0) = true := by simp [hA]
        clear hA
        have zB : (g != 0) = false := by simp [hB.1]
        have oB : (B.m == s.m) = true := by simp [hB.2]
        have fB := Lib.hid hB.1
        clear hB
        have zC : (h != 0) = true := by simp [hC]
        clear hC
        go_wp2_with fail
        refine ((VB.out fB.out) _).mono ?_
        rintro e w9 ⟨rfl, hx⟩
        have F := F0.next hx
        replace hb := below_next hb hx
        clear hx F0 k0 a0 a1 a2 a3 a4 a5 b0 b1 b2 b3 b4 b5 n1 n2 n3
        obtain ⟨k0, a0, a1, a2, a3, a4, a5, b0, b1, b2, b3, b4, b5, c0, c1, c2, c3, c4, c5⟩ := F.facts
        go_wp2
        go_ret
        exact ⟨rfl, hb⟩
      · have zA : (f != 0) = true := by simp [hA]
        clear hA
        have zB : (g != 0) = false := by simp [hB.1]
        have oB : (B.m == s.m) = true := by simp [hB.2]
        have fB := Lib.hid hB.1
        clear hB
        have zC : (h != 0) = false := by simp [hC.1]
        have sC : (s.m == 3) = true := by simp [hC.2.1]
        have mC : (C.m == 1) = true := by simp [hC.2.2.1]
        have fC := Lib.hid hC.1
        have tC' := TC.out fC.out
        rw [hC.2.2.2] at tC'
        have TC' := Lib.hid tC'
        clear hC tC'
        go_wp2_with fail
        refine ((VB.out fB.out) _).mono ?_
        rintro e w9 ⟨rfl, hx⟩
        have F := F0.next hx
        replace hb := below_next hb hx
        clear hx F0 k0 a0 a1 a2 a3 a4 a5 b0 b1 b2 b3 b4 b5 n1 n2 n3
        obtain ⟨k0, a0, a1, a2, a3, a4, a5, b0, b1, b2, b3, b4, b5, c0, c1, c2, c3, c4, c5⟩ := F.facts
        go_wp2_with fail
        refine (TC'.out _).mono ?_
        rintro e w10 ⟨rfl, hx⟩
        replace F := F.next hx
        replace hb := below_next hb hx
        clear hx k0 a0 a1 a2 a3 a4 a5 b0 b1 b2 b3 b4 b5 c0 c1 c2 c3 c4 c5
        obtain ⟨k0, a0, a1, a2, a3, a4, a5, b0, b1, b2, b3, b4, b5, c0, c1, c2, c3, c4, c5⟩ := F.facts
        go_wp2
        go_ret
        exact ⟨rfl, hb⟩
    · rcases hC with hC | hC
      · have zA : (f != 0) = true := by simp [hA]
        clear hA
        have zB : (g != 0) = false := by simp [hB.1]
        have oB : (B.m == s.m) = false := by simp; omega
        have sB : (s.m == 2) = true := by simp [hB.2.1]
        have mB : (B.m == 1) = true := by simp [hB.2.2.1]
        have fB := Lib.hid hB.1
        have tB' := TB.out fB.out
        rw [hB.2.2.2] at tB'
        have TB' := Lib.hid tB'
        clear hB tB'
        have zC : (h != 0) = true := by simp [hC]
        clear hC
        go_wp2_with fail
        refine ((VB.out fB.out) _).mono ?_
        rintro e w9 ⟨rfl, hx⟩
        have F := F0.next hx
        replace hb := below_next hb hx
        clear hx F0 k0 a0 a1 a2 a3 a4 a5 b0 b1 b2 b3 b4 b5 n1 n2 n3
        obtain ⟨k0, a0, a1, a2, a3, a4, a5, b0, b1, b2, b3, b4, b5, c0, c1, c2, c3, c4, c5⟩ := F.facts
        go_wp2_with fail
        refine (TB'.out _).mono ?_
        rintro e w10 ⟨rfl, hx⟩
        replace F := F.next hx
        replace hb := below_next hb hx
        clear hx k0 a0 a1 a2 a3 a4 a5 b0 b1 b2 b3 b4 b5 c0 c1 c2 c3 c4 c5
        obtain ⟨k0, a0, a1, a2, a3, a4, a5, b0, b1, b2, b3, b4, b5, c0, c1, c2, c3, c4, c5⟩ := F.facts
        go_wp2
        go_ret
        exact ⟨rfl, hb⟩
      · exact absurd hB.2.1 (by omega)
  · rcases hB with hB | hB | hB
    · rcases hC with hC | hC
      · have zA : (f != 0) = false := by simp [hA.1]
        have oA := hA.2
        have fA := Lib.hid hA.1
        clear hA
        have zB : (g != 0) = true := by simp [hB]
        clear hB
        have zC : (h != 0) = true := by simp [hC]
        clear hC
        go_wp2_with fail
        refine ((VA.out fA.out) _).mono ?_
        rintro e w9 ⟨rfl, hx⟩
        have F := F0.next hx
        replace hb := below_next hb hx
        clear hx F0 k0 a0 a1 a2 a3 a4 a5 b0 b1 b2 b3 b4 b5 n1 n2 n3
        obtain ⟨k0, a0, a1, a2, a3, a4, a5, b0, b1, b2, b3, b4, b5, c0, c1, c2, c3, c4, c5⟩ := F.facts
        go_wp2
        go_ret
        exact ⟨rfl, hb⟩
      · have zA : (f != 0) = false := by simp [hA.1]
        have oA := hA.2
        have fA := Lib.hid hA.1
        clear hA
        have zB : (g != 0) = true := by simp [hB]
        clear hB
        have zC : (h != 0) = false := by simp [hC.1]
        have sC : (s.m == 3) = true := by simp [hC.2.1]
        have mC : (C.m == 1) = true := by simp [hC.2.2.1]
        have fC := Lib.hid hC.1
        have tC' := TC.out fC.out
        rw [hC.2.2.2] at tC'
        have TC' := Lib.hid tC'
        clear hC tC'
        go_wp2_with fail
        refine ((VA.out fA.out) _).mono ?_
        rintro e w9 ⟨rfl, hx⟩
        have F := F0.next hx
        replace hb := below_next hb hx
        clear hx F0 k0 a0 a1 a2 a3 a4 a5 b0 b1 b2 b3 b4 b5 n1 n2 n3
        obtain ⟨k0, a0, a1, a2, a3, a4, a5, b0, b1, b2, b3, b4, b5, c0, c1, c2, c3, c4, c5⟩ := F.facts
        go_wp2_with fail
        refine (TC'.out _).mono ?_
        rintro e w10 ⟨rfl, hx⟩
        replace F := F.next hx
        replace hb := below_next hb hx
        clear hx k0 a0 a1 a2 a3 a4 a5 b0 b1 b2 b3 b4 b5 c0 c1 c2 c3 c4 c5
        obtain ⟨k0, a0, a1, a2, a3, a4, a5, b0, b1, b2, b3, b4, b5, c0, c1, c2, c3, c4, c5⟩ := F.facts
        go_wp2
        go_ret
        exact ⟨rfl, hb⟩
    · rcases hC with hC | hC
      · have zA : (f != 0) = false := by simp [hA.1]
        have oA := hA.2
        have fA := Lib.hid hA.1
        clear hA
        have zB : (g != 0) = false := by simp [hB.1]
        have oB : (B.m == s.m) = true := by simp [hB.2]
        have fB := Lib.hid hB.1
        clear hB
        have zC : (h != 0) = true := by simp [hC]
        clear hC
        go_wp2_with fail
        refine ((VA.out fA.out) _).mono ?_
        rintro e w9 ⟨rfl, hx⟩
        have F := F0.next hx
        replace hb := below_next hb hx
        clear hx F0 k0 a0 a1 a2 a3 a4 a5 b0 b1 b2 b3 b4 b5 n1 n2 n3
        obtain ⟨k0, a0, a1, a2, a3, a4, a5, b0, b1, b2, b3, b4, b5, c0, c1, c2, c3, c4, c5⟩ := F.facts
        go_wp2_with fail
        refine ((VB.out fB.out) _).mono ?_
        rintro e w10 ⟨rfl, hx⟩
        replace F := F.next hx
        replace hb := below_next hb hx
        clear hx k0 a0 a1 a2 a3 a4 a5 b0 b1 b2 b3 b4 b5 c0 c1 c2 c3 c4 c5
        obtain ⟨k0, a0, a1, a2, a3, a4, a5, b0, b1, b2, b3, b4, b5, c0, c1, c2, c3, c4, c5⟩ := F.facts
        go_wp2
        go_ret
        exact ⟨rfl, hb⟩
      · have zA : (f != 0) = false := by simp [hA.1]
        have oA := hA.2
        have fA := Lib.hid hA.1
        clear hA
        have zB : (g != 0) = false := by simp [hB.1]
        have oB : (B.m == s.m) = true := by simp [hB.2]
        have fB := Lib.hid hB.1
        clear hB
        have zC : (h != 0) = false := by simp [hC.1]
        have sC : (s.m == 3) = true := by simp [hC.2.1]
        have mC : (C.m == 1) = true := by simp [hC.2.2.1]
        have fC := Lib.hid hC.1
        have tC' := TC.out fC.out
        rw [hC.2.2.2] at tC'
        have TC' := Lib.hid tC'
        clear hC tC'
        go_wp2_with fail
        refine ((VA.out fA.out) _).mono ?_
        rintro e w9 ⟨rfl, hx⟩
        have F := F0.next hx
        replace hb := below_next hb hx
        clear hx F0 k0 a0 a1 a2 a3 a4 a5 b0 b1 b2 b3 b4 b5 n1 n2 n3
        obtain ⟨k0, a0, a1, a2, a3, a4, a5, b0, b1, b2, b3, b4, b5, c0, c1, c2, c3, c4, c5⟩ := F.facts
        go_wp2_with fail
        refine ((VB.out fB.out) _).mono ?_
        rintro e w10 ⟨rfl, hx⟩
        replace F := F.next hx
        replace hb := below_next hb hx
        clear hx k0 a0 a1 a2 a3 a4 a5 b0 b1 b2 b3 b4 b5 c0 c1 c2 c3 c4 c5
        obtain ⟨k0, a0, a1, a2, a3, a4, a5, b0, b1, b2, b3, b4, b5, c0, c1, c2, c3, c4, c5⟩ := F.facts
        go_wp2_with fail
        refine (TC'.out _).mono ?_
        rintro e w11 ⟨rfl, hx⟩
        replace F := F.next hx
        replace hb := below_next hb hx
        clear hx k0 a0 a1 a2 a3 a4 a5 b0 b1 b2 b3 b4 b5 c0 c1 c2 c3 c4 c5
        obtain ⟨k0, a0, a1, a2, a3, a4, a5, b0, b1, b2, b3, b4, b5, c0, c1, c2, c3, c4, c5⟩ := F.facts
        go_wp2
        go_ret
        exact ⟨rfl, hb⟩
    · rcases hC with hC | hC
      · have zA : (f != 0) = false := by simp [hA.1]
        have oA := hA.2
        have fA := Lib.hid hA.1
        clear hA
        have zB : (g != 0) = false := by simp [hB.1]
        have oB : (B.m == s.m) = false := by simp; omega
        have sB : (s.m == 2) = true := by simp [hB.2.1]
        have mB : (B.m == 1) = true := by simp [hB.2.2.1]
        have fB := Lib.hid hB.1
        have tB' := TB.out fB.out
        rw [hB.2.2.2] at tB'
        have TB' := Lib.hid tB'
        clear hB tB'
        have zC : (h != 0) = true := by simp [hC]
        clear hC
        go_wp2_with fail
        refine ((VA.out fA.out) _).mono ?_
        rintro e w9 ⟨rfl, hx⟩
        have F := F0.next hx
        replace hb := below_next hb hx
        clear hx F0 k0 a0 a1 a2 a3 a4 a5 b0 b1 b2 b3 b4 b5 n1 n2 n3
        obtain ⟨k0, a0, a1, a2, a3, a4, a5, b0, b1, b2, b3, b4, b5, c0, c1, c2, c3, c4, c5⟩ := F.facts
        go_wp2_with fail
        refine ((VB.out fB.out) _).mono ?_
        rintro e w10 ⟨rfl, hx⟩
        replace F := F.next hx
        replace hb := below_next hb hx
        clear hx k0 a0 a1 a2 a3 a4 a5 b0 b1 b2 b3 b4 b5 c0 c1 c2 c3 c4 c5
        obtain ⟨k0, a0, a1, a2, a3, a4, a5, b0, b1, b2, b3, b4, b5, c0, c1, c2, c3, c4, c5⟩ := F.facts
        go_wp2_with fail
        refine (TB'.out _).mono ?_
        rintro e w11 ⟨rfl, hx⟩
        replace F := F.next hx
        replace hb := below_next hb hx
        clear hx k0 a0 a1 a2 a3 a4 a5 b0 b1 b2 b3 b4 b5 c0 c1 c2 c3 c4 c5
        obtain ⟨k0, a0, a1, a2, a3, a4, a5, b0, b1, b2, b3, b4, b5, c0, c1, c2, c3, c4, c5⟩ := F.facts
        go_wp2
        go_ret
        exact ⟨rfl, hb⟩
      · exact absurd hB.2.1 (by omega)
  · rcases hB with hB | hB | hB
    · rcases hC with hC | hC
      · have zA : (f != 0) = false := by simp [hA.1]
        have oA : decide (s.m ≤ A.m) = false := decide_eq_false (by omega)
        have sA : (s.m == 2) = true := by simp [hA.2.1]
        have mA : (A.m == 1) = true := by simp [hA.2.2.1]
        have fA := Lib.hid hA.1
        have tA' := TA.out fA.out
        rw [hA.2.2.2] at tA'
        have TA' := Lib.hid tA'
        clear hA tA'
        have zB : (g != 0) = true := by simp [hB]
        clear hB
        have zC : (h != 0) = true := by simp [hC]
        clear hC
        go_wp2_with fail
        refine ((VA.out fA.out) _).mono ?_
        rintro e w9 ⟨rfl, hx⟩
        have F := F0.next hx
        replace hb := below_next hb hx
        clear hx F0 k0 a0 a1 a2 a3 a4 a5 b0 b1 b2 b3 b4 b5 n1 n2 n3
        obtain ⟨k0, a0, a1, a2, a3, a4, a5, b0, b1, b2, b3, b4, b5, c0, c1, c2, c3, c4, c5⟩ := F.facts
        go_wp2_with fail
        refine (TA'.out _).mono ?_
        rintro e w10 ⟨rfl, hx⟩
        replace F := F.next hx
        replace hb := below_next hb hx
        clear hx k0 a0 a1 a2 a3 a4 a5 b0 b1 b2 b3 b4 b5 c0 c1 c2 c3 c4 c5
        obtain ⟨k0, a0, a1, a2, a3, a4, a5, b0, b1, b2, b3, b4, b5, c0, c1, c2, c3, c4, c5⟩ := F.facts
        go_wp2
        go_ret
        exact ⟨rfl, hb⟩
      · exact absurd hA.2.1 (by omega)
    · rcases hC with hC | hC
      · have zA : (f != 0) = false := by simp [hA.1]
        have oA : decide (s.m ≤ A.m) = false := decide_eq_false (by omega)
        have sA : (s.m == 2) = true := by simp [hA.2.1]
        have mA : (A.m == 1) = true := by simp [hA.2.2.1]
        have fA := Lib.hid hA.1
        have tA' := TA.out fA.out
        rw [hA.2.2.2] at tA'
        have TA' := Lib.hid tA'
        clear hA tA'
        have zB : (g != 0) = false := by simp [hB.1]
        have oB : (B.m == s.m) = true := by simp [hB.2]
        have fB := Lib.hid hB.1
        clear hB
        have zC : (h != 0) = true := by simp [hC]
        clear hC
        go_wp2_with fail
        refine ((VA.out fA.out) _).mono ?_
        rintro e w9 ⟨rfl, hx⟩
        have F := F0.next hx
        replace hb := below_next hb hx
        clear hx F0 k0 a0 a1 a2 a3 a4 a5 b0 b1 b2 b3 b4 b5 n1 n2 n3
        obtain ⟨k0, a0, a1, a2, a3, a4, a5, b0, b1, b2, b3, b4, b5, c0, c1, c2, c3, c4, c5⟩ := F.facts
        go_wp2_with fail
        refine (TA'.out _).mono ?_
        rintro e w10 ⟨rfl, hx⟩
        replace F := F.next hx
        replace hb := below_next hb hx
        clear hx k0 a0 a1 a2 a3 a4 a5 b0 b1 b2 b3 b4 b5 c0 c1 c2 c3 c4 c5
        obtain ⟨k0, a0, a1, a2, a3, a4, a5, b0, b1, b2, b3, b4, b5, c0, c1, c2, c3, c4, c5⟩ := F.facts
        go_wp2_with fail
        refine ((VB.out fB.out) _).mono ?_
        rintro e w11 ⟨rfl, hx⟩
        replace F := F.next hx
        replace hb := below_next hb hx
        clear hx k0 a0 a1 a2 a3 a4 a5 b0 b1 b2 b3 b4 b5 c0 c1 c2 c3 c4 c5
        obtain ⟨k0, a0, a1, a2, a3, a4, a5, b0, b1, b2, b3, b4, b5, c0, c1, c2, c3, c4, c5⟩ := F.facts
        go_wp2
        go_ret
        exact ⟨rfl, hb⟩
      · exact absurd hA.2.1 (by omega)
    · rcases hC with hC | hC
      · have zA : (f != 0) = false := by simp [hA.1]
        have oA : decide (s.m ≤ A.m) = false := decide_eq_false (by omega)
        have sA : (s.m == 2) = true := by simp [hA.2.1]
        have mA : (A.m == 1) = true := by simp [hA.2.2.1]
        have fA := Lib.hid hA.1
        have tA' := TA.out fA.out
        rw [hA.2.2.2] at tA'
        have TA' := Lib.hid tA'
        clear hA tA'
        have zB : (g != 0) = false := by simp [hB.1]
        have oB : (B.m == s.m) = false := by simp; omega
        have sB : (s.m == 2) = true := by simp [hB.2.1]
        have mB : (B.m == 1) = true := by simp [hB.2.2.1]
        have fB := Lib.hid hB.1
        have tB' := TB.out fB.out
        rw [hB.2.2.2] at tB'
        have TB' := Lib.hid tB'
        clear hB tB'
        have zC : (h != 0) = true := by simp [hC]
        clear hC
        go_wp2_with fail
        refine ((VA.out fA.out) _).mono ?_
        rintro e w9 ⟨rfl, hx⟩
        have F := F0.next hx
        replace hb := below_next hb hx
        clear hx F0 k0 a0 a1 a2 a3 a4 a5 b0 b1 b2 b3 b4 b5 n1 n2 n3
        obtain ⟨k0, a0, a1, a2, a3, a4, a5, b0, b1, b2, b3, b4, b5, c0, c1, c2, c3, c4, c5⟩ := F.facts
        go_wp2_with fail
        refine (TA'.out _).mono ?_
        rintro e w10 ⟨rfl, hx⟩
        replace F := F.next hx
        replace hb := below_next hb hx
        clear hx k0 a0 a1 a2 a3 a4 a5 b0 b1 b2 b3 b4 b5 c0 c1 c2 c3 c4 c5
        obtain ⟨k0, a0, a1, a2, a3, a4, a5, b0, b1, b2, b3, b4, b5, c0, c1, c2, c3, c4, c5⟩ := F.facts
        go_wp2_with fail
        refine ((VB.out fB.out) _).mono ?_
        rintro e w11 ⟨rfl, hx⟩
        replace F := F.next hx
        replace hb := below_next hb hx
        clear hx k0 a0 a1 a2 a3 a4 a5 b0 b1 b2 b3 b4 b5 c0 c1 c2 c3 c4 c5
        obtain ⟨k0, a0, a1, a2, a3, a4, a5, b0, b1, b2, b3, b4, b5, c0, c1, c2, c3, c4, c5⟩ := F.facts
        go_wp2_with fail
        refine (TB'.out _).mono ?_
        rintro e w12 ⟨rfl, hx⟩
        replace F := F.next hx
        replace hb := below_next hb hx
        clear hx k0 a0 a1 a2 a3 a4 a5 b0 b1 b2 b3 b4 b5 c0 c1 c2 c3 c4 c5
        obtain ⟨k0, a0, a1, a2, a3, a4, a5, b0, b1, b2, b3, b4, b5, c0, c1, c2, c3, c4, c5⟩ := F.facts
        go_wp2
        go_ret
        exact ⟨rfl, hb⟩
      · exact absurd hA.2.1 (by omega)
theorem calm_walk (s : Tm) (sn lv now : Int) (w : World) (hG : Gl w) : LawIs 6 #[.agg s.cells, .agg #[.int .i64 sn, .int .i64 lv], .int .i64 now] w := by
  by_cases hv : Vld s
  · refine calm_in s _ _ _ sn lv now _ _ _ w hG (valid_is hv) (step_is s sn lv now) (pass_is s now) (unl_is s now) (fun h => ?_) (fun h => ?_) (fun h => ?_) (fun h => ?_) (fun h => ?_) ?_ ?_ ?_
    · obtain ⟨hv, ht, hM, hk, he⟩ := step_good h
      rw [he]; exact valid_is (stp_calm hv ht hM hk).1
    · obtain ⟨hv, ht, hM, hk, he⟩ := step_good h
      rw [he]; exact total_is (stp_calm hv ht hM hk).1.2.2
    · exact valid_is (pass_calm h).1
    · exact total_is (pass_calm h).1.2.2
    · exact total_is (unl_calm h).2.2.2
    · by_cases h : (stepR s sn lv now).2 = 0
      · right
        obtain ⟨hv, ht, hM, hk, he⟩ := step_good h
        rw [he]
        rcases (stp_calm (lv := lv) hv ht hM hk).2 with h1 | ⟨h1, h2, h3⟩
        · exact .inl ⟨h, h1⟩
        · exact .inr ⟨h, h1, h2, h3⟩
      · exact .inl h
    · by_cases h : (passR s now).2 = 0
      · right
        rcases (pass_calm h).2 with h1 | ⟨h1, h2, h3⟩
        · exact .inl ⟨h, h1⟩
        · exact .inr ⟨h, h1, h2, h3⟩
      · exact .inl h
    · by_cases h : (unlR s now).2 = 0
      · obtain ⟨h1, h2, h3, _⟩ := unl_calm h
        exact .inr ⟨h, h1, h2, h3⟩
      · exact .inl h
  · exact calm_out s sn lv now w hG (valid_not hv)
end Go.Proofs.YtjainkepgmdkiaaDoor.Uc
