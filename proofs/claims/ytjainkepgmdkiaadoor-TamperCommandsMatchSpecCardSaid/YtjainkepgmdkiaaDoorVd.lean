/-
  The specification's passing of time. (Written by a program.)
-/
import Derived.Test.YtjainkepgmdkiaaDoorVb
namespace Go.Proofs.YtjainkepgmdkiaaDoor.Vd
open Go.RowKit Go.Proofs.YtjainkepgmdkiaaDoor.B Go.Proofs.YtjainkepgmdkiaaDoor.Ta Go.Proofs.YtjainkepgmdkiaaDoor.Tb Go.Proofs.YtjainkepgmdkiaaDoor.Tc Go.Proofs.YtjainkepgmdkiaaDoor.Tz Go.Proofs.YtjainkepgmdkiaaDoor.Te Go.Proofs.YtjainkepgmdkiaaDoor.Tf Go.Proofs.YtjainkepgmdkiaaDoor.Tg Go.Proofs.YtjainkepgmdkiaaDoor.Th Go.Proofs.YtjainkepgmdkiaaDoor.Ti Go.Proofs.YtjainkepgmdkiaaDoor.Tt Go.Proofs.YtjainkepgmdkiaaDoor.To Go.Proofs.YtjainkepgmdkiaaDoor.Ua Go.Proofs.YtjainkepgmdkiaaDoor.Ud Go.Proofs.YtjainkepgmdkiaaDoor.Va Go.Proofs.YtjainkepgmdkiaaDoor.Vb
attribute [local go_sem] max2_int min2_int max_two min_two
abbrev RP (s : Tm) (now : Int) (T : Tm) : Prop := ∀ w, Calls Tryd.prog 31 #[.agg #[.int .i64 s.m, .int .i64 s.t, .int .i64 s.a, .int .i64 s.b, .int .i64 s.c, .int .i64 s.d], .int .i64 now] w fun e w' => e = .returned (.agg #[.int .i64 T.m, .int .i64 T.t, .int .i64 T.a, .int .i64 T.b, .int .i64 T.c, .int .i64 T.d]) ∧ Below w.heap.size w w'
set_option maxHeartbeats 8000000 in
set_option maxRecDepth 100000 in
theorem rpassed_at (s : Tm) (now K : Int) (hs : Scores s) (ht0 : 0 ≤ s.t) (ht : s.t ≤ now) (hM : now ≤ 1099511627776) (hm : s.m < 4) (hK : (now - s.t) / 60 = K) (hcase : (s.m ≠ 2) ∨ (s.m = 2 ∧ tot (late s K) = 0) ∨ (s.m = 2 ∧ tot (late s K) ≠ 0)) : RP s now (passedK s K) := by
  intro w
  have hK0 : 0 ≤ K := by omega
  have hK1 : K ≤ 1099511627776 := by omega
  have hKt : s.t + 60 * K ≤ 1099511627776 := by omega
  have v1 : IntKind.i64.wrap (now - s.t) = now - s.t := IntWalk.i64_in _ (by omega)
  have v2 : Int.tdiv (now - s.t) 60 = K := by rw [Int.tdiv_eq_ediv_of_nonneg (by omega)]; exact hK
  have v3 : IntKind.i64.wrap K = K := IntWalk.i64_in _ (by omega)
  have v4 : IntKind.i64.wrap (60 * K) = 60 * K := IntWalk.i64_in _ (by omega)
  have v5 : IntKind.i64.wrap (s.t + 60 * K) = s.t + 60 * K := IntWalk.i64_in _ (by omega)
  have HO := Lib.hid (rover s false (decide_eq_false (by omega)))
  have HT := Lib.hid (rtotal (late s K) (late_scores hs hK0))
  have HC := Lib.hid hcase
  have HS := Lib.hid hs
  clear hK ht hM hm hcase hs ht0 hKt
  have q1 := (Blk.new w 27 s.cells).alloc (.cells nil0.cells 27)
  have r1 := Blk.new (w.alloc (.cells s.cells 27)) 27 nil0.cells
  simp only [size_alloc] at r1
  have b1 : Below w.heap.size w ((w.alloc (.cells s.cells 27)).alloc (.cells nil0.cells 27)) := ((Below.refl _ _).alloc (Nat.le_refl _) _).alloc (by rw [size_alloc]; omega) _
  go_enter Tryd.func31, Tryd.ntmps31
  go_wp2_with fail
  change Calls _ _ _ ((w.alloc (.cells s.cells 27)).alloc (.cells nil0.cells 27)) _
  generalize (w.alloc (.cells s.cells 27)).alloc (.cells nil0.cells 27) = W1 at q1 r1 b1 ⊢
  refine (HO.out W1).mono ?_
  rintro e w2 ⟨rfl, hb2⟩
  have q2 := q1.below hb2 q1.lt
  have r2 := r1.below hb2 r1.lt
  have b2 := below_next b1 hb2
  clear q1 r1 b1 hb2 HO
  have z1 : w2.cell? ⟨w.heap.size, 1, none⟩ = some (.int .i64 s.t) := q2.cell 1
  go_wp2_with fail
  clear z1 v1 v2 v3
  go_loopw [6] (fun v6 wr => ∃ i : Nat, i ≤ 4 ∧ v6 = .int .i64 (i : Int) ∧ Blk wr w.heap.size 27 (pk s K i).cells ∧ Blk wr (w.heap.size + 1) 27 nil0.cells ∧ Below w.heap.size w wr) (fun v6 _ => 4 - (intOf v6).toNat)
  case atStart => exact ⟨0, by omega, rfl, q2, r2, b2⟩
  case round =>
    clear q2 r2 b2
    obtain ⟨i, hi, rfl, q, r, b⟩ := hrel
    by_cases hlt : i < 4
    · have hc : i = 0 ∨ i = 1 ∨ i = 2 ∨ i = 3 := by omega
      clear hlt hi
      rcases hc with rfl | rfl | rfl | rfl
      · have c1 : wr.cell? ⟨w.heap.size, 2, none⟩ = some (.int .i64 s.a) := q.cell 2
        have f1 := q.frozen 2
        have hx := HS.out.1
        have hw1 : IntKind.i64.wrap (s.a - K) = s.a - K := IntWalk.i64_in _ (by omega)
        have hl : (if K < s.a then s.a - K else 0) = low s.a K := rfl
        have hp : Blk (wr.setCell ⟨w.heap.size, 2, none⟩ (.int .i64 (low s.a K))) w.heap.size 27 (pk s K 1).cells := q.put 2 (.int .i64 (low s.a K))
        have hr := r.far (p := ⟨w.heap.size, 2, none⟩) (by simp) (.int .i64 (low s.a K))
        have hb := b.setCell (p := ⟨w.heap.size, 2, none⟩) (Nat.le_refl _) (.int .i64 (low s.a K))
        clear hx q r b
        go_wp2
        go_roundw
        case rel => exact ⟨1, by omega, by go_num, hp, hr, hb⟩
        case measure => simp [intOf]
      · have c1 : wr.cell? ⟨w.heap.size, 3, none⟩ = some (.int .i64 s.b) := q.cell 3
        have f1 := q.frozen 3
        have hx := HS.out.2.1
        have hw1 : IntKind.i64.wrap (s.b - K) = s.b - K := IntWalk.i64_in _ (by omega)
        have hl : (if K < s.b then s.b - K else 0) = low s.b K := rfl
        have hp : Blk (wr.setCell ⟨w.heap.size, 3, none⟩ (.int .i64 (low s.b K))) w.heap.size 27 (pk s K 2).cells := q.put 3 (.int .i64 (low s.b K))
        have hr := r.far (p := ⟨w.heap.size, 3, none⟩) (by simp) (.int .i64 (low s.b K))
        have hb := b.setCell (p := ⟨w.heap.size, 3, none⟩) (Nat.le_refl _) (.int .i64 (low s.b K))
        clear hx q r b
        go_wp2
        go_roundw
        case rel => exact ⟨2, by omega, by go_num, hp, hr, hb⟩
        case measure => simp [intOf]
      · have c1 : wr.cell? ⟨w.heap.size, 4, none⟩ = some (.int .i64 s.c) := q.cell 4
        have f1 := q.frozen 4
        have hx := HS.out.2.2.1
        have hw1 : IntKind.i64.wrap (s.c - K) = s.c - K := IntWalk.i64_in _ (by omega)
        have hl : (if K < s.c then s.c - K else 0) = low s.c K := rfl
        have hp : Blk (wr.setCell ⟨w.heap.size, 4, none⟩ (.int .i64 (low s.c K))) w.heap.size 27 (pk s K 3).cells := q.put 4 (.int .i64 (low s.c K))
        have hr := r.far (p := ⟨w.heap.size, 4, none⟩) (by simp) (.int .i64 (low s.c K))
        have hb := b.setCell (p := ⟨w.heap.size, 4, none⟩) (Nat.le_refl _) (.int .i64 (low s.c K))
        clear hx q r b
        go_wp2
        go_roundw
        case rel => exact ⟨3, by omega, by go_num, hp, hr, hb⟩
        case measure => simp [intOf]
      · have c1 : wr.cell? ⟨w.heap.size, 5, none⟩ = some (.int .i64 s.d) := q.cell 5
        have f1 := q.frozen 5
        have hx := HS.out.2.2.2
        have hw1 : IntKind.i64.wrap (s.d - K) = s.d - K := IntWalk.i64_in _ (by omega)
        have hl : (if K < s.d then s.d - K else 0) = low s.d K := rfl
        have hp : Blk (wr.setCell ⟨w.heap.size, 5, none⟩ (.int .i64 (low s.d K))) w.heap.size 27 (pk s K 4).cells := q.put 5 (.int .i64 (low s.d K))
        have hr := r.far (p := ⟨w.heap.size, 5, none⟩) (by simp) (.int .i64 (low s.d K))
        have hb := b.setCell (p := ⟨w.heap.size, 5, none⟩) (Nat.le_refl _) (.int .i64 (low s.d K))
        clear hx q r b
        go_wp2
        go_roundw
        case rel => exact ⟨4, by omega, by go_num, hp, hr, hb⟩
        case measure => simp [intOf]
    · obtain rfl : i = 4 := by omega
      clear hlt hi
      have hp : Blk (wr.setCell ⟨w.heap.size, 1, none⟩ (.int .i64 (s.t + 60 * K))) w.heap.size 27 (late s K).cells := q.put 1 (.int .i64 (s.t + 60 * K))
      have hr := r.far (p := ⟨w.heap.size, 1, none⟩) (by simp) (.int .i64 (s.t + 60 * K))
      have hb := b.setCell (p := ⟨w.heap.size, 1, none⟩) (Nat.le_refl _) (.int .i64 (s.t + 60 * K))
      rcases HC.out with h2 | ⟨h2, hz⟩ | ⟨h2, hz⟩
      · have e2 : (s.m == 2) = false := by simp [h2]
        have eP : passedK s K = (⟨s.m, s.t + 60 * K, low s.a K, low s.b K, low s.c K, low s.d K⟩ : Tm) := by unfold passedK; rw [if_neg (fun h => h2 h.1)]
        replace eP := Lib.hid eP
        clear h2
        have c0 : wr.cell? ⟨w.heap.size, 0, none⟩ = some (.int .i64 (s.m)) := q.cell 0
        have f0 := q.frozen 0
        have c1 : wr.cell? ⟨w.heap.size, 1, none⟩ = some (.int .i64 (s.t)) := q.cell 1
        have f1 := q.frozen 1
        have c2 : wr.cell? ⟨w.heap.size, 2, none⟩ = some (.int .i64 (low s.a K)) := q.cell 2
        have f2 := q.frozen 2
        have c3 : wr.cell? ⟨w.heap.size, 3, none⟩ = some (.int .i64 (low s.b K)) := q.cell 3
        have f3 := q.frozen 3
        have c4 : wr.cell? ⟨w.heap.size, 4, none⟩ = some (.int .i64 (low s.c K)) := q.cell 4
        have f4 := q.frozen 4
        have c5 : wr.cell? ⟨w.heap.size, 5, none⟩ = some (.int .i64 (low s.d K)) := q.cell 5
        have f5 := q.frozen 5
        obtain ⟨g0, g1, g2, g3, g4, g5⟩ := six r
        have y0 := r.frozen 0
        have y1 := r.frozen 1
        have y2 := r.frozen 2
        have y3 := r.frozen 3
        have y4 := r.frozen 4
        have y5 := r.frozen 5
        clear q r b
        go_wp2
        clear c0 c1 c2 c3 c4 c5 f0 f1 f2 f3 f4 f5 g0 g1 g2 g3 g4 g5 y0 y1 y2 y3 y4 y5
        replace eP := eP.out
        obtain ⟨d, hd⟩ := under27
        refine bodyPost_ret (results_cell_row rfl _ _ (w.heap.size + 1) 27 (passedK s K).cells (0, 0) _ rfl (by rw [eP]; exact six_put2 (B := (⟨s.m, s.t + 60 * K, low s.a K, low s.b K, low s.c K, low s.d K⟩ : Tm)) hr) hd rfl (sz27 (passedK s K))) rfl ?_
        exact ⟨rfl, On.below (six_on _ _ (⟨s.m, s.t + 60 * K, low s.a K, low s.b K, low s.c K, low s.d K⟩ : Tm)) hb (by omega) (hb).size⟩
      · have e2 : (s.m == 2) = true := by simp [h2]
        have e3 : (tot (late s K) == 0) = true := by simp [hz]
        have eP : passedK s K = (⟨1, s.t + 60 * K, low s.a K, low s.b K, low s.c K, low s.d K⟩ : Tm) := by unfold passedK; rw [if_pos ⟨h2, hz⟩]
        replace eP := Lib.hid eP
        clear h2 hz
        have c0 : wr.cell? ⟨w.heap.size, 0, none⟩ = some (.int .i64 (s.m)) := q.cell 0
        have f0 := q.frozen 0
        have c1 : wr.cell? ⟨w.heap.size, 1, none⟩ = some (.int .i64 (s.t)) := q.cell 1
        have f1 := q.frozen 1
        have c2 : wr.cell? ⟨w.heap.size, 2, none⟩ = some (.int .i64 (low s.a K)) := q.cell 2
        have f2 := q.frozen 2
        have c3 : wr.cell? ⟨w.heap.size, 3, none⟩ = some (.int .i64 (low s.b K)) := q.cell 3
        have f3 := q.frozen 3
        have c4 : wr.cell? ⟨w.heap.size, 4, none⟩ = some (.int .i64 (low s.c K)) := q.cell 4
        have f4 := q.frozen 4
        have c5 : wr.cell? ⟨w.heap.size, 5, none⟩ = some (.int .i64 (low s.d K)) := q.cell 5
        have f5 := q.frozen 5
        clear q r b
        go_wp2_with fail
        refine (HT.out _).mono ?_
        rintro e w4 ⟨rfl, hb4⟩
        have p4 := hp.below hb4 hp.lt
        have r4 := hr.below hb4 hr.lt
        have b4 := below_next hb hb4
        clear c0 c1 c2 c3 c4 c5 f0 f1 f2 f3 f4 f5 hp hr hb hb4
        have c0 : w4.cell? ⟨w.heap.size, 0, none⟩ = some (.int .i64 (s.m)) := p4.cell 0
        have f0 := p4.frozen 0
        have c1 : w4.cell? ⟨w.heap.size, 1, none⟩ = some (.int .i64 (s.t + 60 * K)) := p4.cell 1
        have f1 := p4.frozen 1
        have c2 : w4.cell? ⟨w.heap.size, 2, none⟩ = some (.int .i64 (low s.a K)) := p4.cell 2
        have f2 := p4.frozen 2
        have c3 : w4.cell? ⟨w.heap.size, 3, none⟩ = some (.int .i64 (low s.b K)) := p4.cell 3
        have f3 := p4.frozen 3
        have c4 : w4.cell? ⟨w.heap.size, 4, none⟩ = some (.int .i64 (low s.c K)) := p4.cell 4
        have f4 := p4.frozen 4
        have c5 : w4.cell? ⟨w.heap.size, 5, none⟩ = some (.int .i64 (low s.d K)) := p4.cell 5
        have f5 := p4.frozen 5
        obtain ⟨g0, g1, g2, g3, g4, g5⟩ := six r4
        have y0 := r4.frozen 0
        have y1 := r4.frozen 1
        have y2 := r4.frozen 2
        have y3 := r4.frozen 3
        have y4 := r4.frozen 4
        have y5 := r4.frozen 5
        go_wp2
        clear c0 c1 c2 c3 c4 c5 f0 f1 f2 f3 f4 f5 g0 g1 g2 g3 g4 g5 y0 y1 y2 y3 y4 y5
        replace eP := eP.out
        obtain ⟨d, hd⟩ := under27
        refine bodyPost_ret (results_cell_row rfl _ _ (w.heap.size + 1) 27 (passedK s K).cells (0, 0) _ rfl (by rw [eP]; exact six_put2 (B := (⟨1, s.t + 60 * K, low s.a K, low s.b K, low s.c K, low s.d K⟩ : Tm)) (r4.far (p := ⟨w.heap.size, 0, none⟩) (by simp) (.int .i64 1))) hd rfl (sz27 (passedK s K))) rfl ?_
        exact ⟨rfl, On.below (six_on _ _ (⟨1, s.t + 60 * K, low s.a K, low s.b K, low s.c K, low s.d K⟩ : Tm)) (b4.setCell (p := ⟨w.heap.size, 0, none⟩) (Nat.le_refl _) (.int .i64 1)) (by omega) ((b4.setCell (p := ⟨w.heap.size, 0, none⟩) (Nat.le_refl _) (.int .i64 1))).size⟩
      · have e2 : (s.m == 2) = true := by simp [h2]
        have e3 : (tot (late s K) == 0) = false := by simp [hz]
        have eP : passedK s K = (⟨s.m, s.t + 60 * K, low s.a K, low s.b K, low s.c K, low s.d K⟩ : Tm) := by unfold passedK; rw [if_neg (fun h => hz h.2)]
        replace eP := Lib.hid eP
        clear h2 hz
        have c0 : wr.cell? ⟨w.heap.size, 0, none⟩ = some (.int .i64 (s.m)) := q.cell 0
        have f0 := q.frozen 0
        have c1 : wr.cell? ⟨w.heap.size, 1, none⟩ = some (.int .i64 (s.t)) := q.cell 1
        have f1 := q.frozen 1
        have c2 : wr.cell? ⟨w.heap.size, 2, none⟩ = some (.int .i64 (low s.a K)) := q.cell 2
        have f2 := q.frozen 2
        have c3 : wr.cell? ⟨w.heap.size, 3, none⟩ = some (.int .i64 (low s.b K)) := q.cell 3
        have f3 := q.frozen 3
        have c4 : wr.cell? ⟨w.heap.size, 4, none⟩ = some (.int .i64 (low s.c K)) := q.cell 4
        have f4 := q.frozen 4
        have c5 : wr.cell? ⟨w.heap.size, 5, none⟩ = some (.int .i64 (low s.d K)) := q.cell 5
        have f5 := q.frozen 5
        clear q r b
        go_wp2_with fail
        refine (HT.out _).mono ?_
        rintro e w4 ⟨rfl, hb4⟩
        have p4 := hp.below hb4 hp.lt
        have r4 := hr.below hb4 hr.lt
        have b4 := below_next hb hb4
        clear c0 c1 c2 c3 c4 c5 f0 f1 f2 f3 f4 f5 hp hr hb hb4
        have c0 : w4.cell? ⟨w.heap.size, 0, none⟩ = some (.int .i64 (s.m)) := p4.cell 0
        have f0 := p4.frozen 0
        have c1 : w4.cell? ⟨w.heap.size, 1, none⟩ = some (.int .i64 (s.t + 60 * K)) := p4.cell 1
        have f1 := p4.frozen 1
        have c2 : w4.cell? ⟨w.heap.size, 2, none⟩ = some (.int .i64 (low s.a K)) := p4.cell 2
        have f2 := p4.frozen 2
        have c3 : w4.cell? ⟨w.heap.size, 3, none⟩ = some (.int .i64 (low s.b K)) := p4.cell 3
        have f3 := p4.frozen 3
        have c4 : w4.cell? ⟨w.heap.size, 4, none⟩ = some (.int .i64 (low s.c K)) := p4.cell 4
        have f4 := p4.frozen 4
        have c5 : w4.cell? ⟨w.heap.size, 5, none⟩ = some (.int .i64 (low s.d K)) := p4.cell 5
        have f5 := p4.frozen 5
        obtain ⟨g0, g1, g2, g3, g4, g5⟩ := six r4
        have y0 := r4.frozen 0
        have y1 := r4.frozen 1
        have y2 := r4.frozen 2
        have y3 := r4.frozen 3
        have y4 := r4.frozen 4
        have y5 := r4.frozen 5
        go_wp2
        clear c0 c1 c2 c3 c4 c5 f0 f1 f2 f3 f4 f5 g0 g1 g2 g3 g4 g5 y0 y1 y2 y3 y4 y5
        replace eP := eP.out
        obtain ⟨d, hd⟩ := under27
        refine bodyPost_ret (results_cell_row rfl _ _ (w.heap.size + 1) 27 (passedK s K).cells (0, 0) _ rfl (by rw [eP]; exact six_put2 (B := (⟨s.m, s.t + 60 * K, low s.a K, low s.b K, low s.c K, low s.d K⟩ : Tm)) r4) hd rfl (sz27 (passedK s K))) rfl ?_
        exact ⟨rfl, On.below (six_on _ _ (⟨s.m, s.t + 60 * K, low s.a K, low s.b K, low s.c K, low s.d K⟩ : Tm)) b4 (by omega) (b4).size⟩
theorem rpassed {s : Tm} {now : Int} (hv : Vld s) (h4 : s.m < 4) (h1 : s.t ≤ now) (h2 : now ≤ 1099511627776) : RP s now (pst s now) := by
  have e : pst s now = passedK s ((now - s.t) / 60) := by unfold pst; rw [if_pos h4]
  rw [e]
  refine rpassed_at s now _ hv.2.2 hv.2.1.1 h1 h2 h4 rfl ?_
  by_cases hm : s.m = 2
  · by_cases hz : tot (late s ((now - s.t) / 60)) = 0
    · exact .inr (.inl ⟨hm, hz⟩)
    · exact .inr (.inr ⟨hm, hz⟩)
  · exact .inl hm
end Go.Proofs.YtjainkepgmdkiaaDoor.Vd
