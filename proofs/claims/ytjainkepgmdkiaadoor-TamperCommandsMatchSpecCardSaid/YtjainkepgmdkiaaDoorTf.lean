/-
  An alarm is counted; the mode behind it: the walks of the methods count and escalate.
-/
import Derived.Test.YtjainkepgmdkiaaDoorTe
namespace Go.Proofs.YtjainkepgmdkiaaDoor.Tf
open Go.RowKit Go.Proofs.YtjainkepgmdkiaaDoor.B Go.Proofs.YtjainkepgmdkiaaDoor.Ta Go.Proofs.YtjainkepgmdkiaaDoor.Tb Go.Proofs.YtjainkepgmdkiaaDoor.Tc Go.Proofs.YtjainkepgmdkiaaDoor.Tz Go.Proofs.YtjainkepgmdkiaaDoor.Te
attribute [local go_sem] max2_int min2_int max_two min_two

/-- A score behind an alarm. -/
def up (x k : Int) : Int := if x + k < 100 then x + k else 100
def bump (s : Tm) (sn : Int) : Tm := ⟨s.m, s.t, if sn = 1 then up s.a 0 else s.a, if sn = 2 then up s.b 3 else s.b, if sn = 3 then up s.c 1 else s.c, if sn = 4 then up s.d 1 else s.d⟩
def counted (s : Tm) (sn lv : Int) : Tm := if alarm sn lv = true then bump s sn else s
theorem up_bound {x k : Int} (h : 0 ≤ x ∧ x ≤ 100) (hk : 0 ≤ k) : 0 ≤ up x k ∧ up x k ≤ 100 := by unfold up; split <;> omega
theorem counted_scores {s : Tm} (h : Scores s) (sn lv : Int) : Scores (counted s sn lv) := by
  unfold counted
  split
  · refine ⟨?_, ?_, ?_, ?_⟩ <;> (simp only [bump]; split)
    · exact up_bound h.1 (by omega)
    · exact h.1
    · exact up_bound h.2.1 (by omega)
    · exact h.2.1
    · exact up_bound h.2.2.1 (by omega)
    · exact h.2.2.1
    · exact up_bound h.2.2.2 (by omega)
    · exact h.2.2.2
  · exact h
set_option maxHeartbeats 4000000 in
set_option maxRecDepth 100000 in
theorem count_none (s : Tm) (sn lv now : Int) (g : Nat) (w : World) (h0 : 1 ≤ sn) (h4 : sn ≤ 4) (ha : alarm sn lv = false) (hB : Blk w g 55 (cv s sn lv now)) (hg : Gl w) :
    Calls Tryd.prog 27 #[.pointer (some ⟨g, 0, none⟩)] w fun e w' => e = .returned (.tuple #[]) ∧ Blk w' g 55 (cv s sn lv now) ∧ On w w' g := by
  have hA := alarm_known sn lv h0 h4
  rw [ha] at hA
  have HA := Lib.hid hA
  clear ha hA
  have c6 : w.cell? ⟨g, 6, none⟩ = some (.int .i64 sn) := hB.cell 6
  have c7 : w.cell? ⟨g, 7, none⟩ = some (.int .i64 lv) := hB.cell 7
  go_enter Tryd.func27, Tryd.ntmps27
  go_wp2_with (first | (go_at_call 23; ((with_reducible refine (HA.out _ hg).mono ?_); rintro e w5 ⟨rfl, hb5⟩)))
  go_end0
  exact ⟨rfl, hB.below hb5 hB.lt, .of_below hb5⟩
set_option maxHeartbeats 4000000 in
set_option maxRecDepth 100000 in
theorem count_1 (s : Tm) (lv now : Int) (g : Nat) (w : World) (hs : Scores s) (ha : alarm 1 lv = true) (hB : Blk w g 55 (cv s 1 lv now)) (hg : Gl w) (hg0 : g ≠ 0) :
    Calls Tryd.prog 27 #[.pointer (some ⟨g, 0, none⟩)] w fun e w' => e = .returned (.tuple #[]) ∧ Blk w' g 55 (cv (bump s 1) 1 lv now) ∧ On w w' g := by
  have hA := alarm_known 1 lv (by omega) (by omega)
  rw [ha] at hA
  have HA := Lib.hid hA
  clear ha hA
  have c6 : w.cell? ⟨g, 6, none⟩ = some (.int .i64 1) := hB.cell 6
  have c7 : w.cell? ⟨g, 7, none⟩ = some (.int .i64 lv) := hB.cell 7
  have hx := hs.1
  have hx0 := hx.1
  have hx1 := hx.2
  have hw1 : IntKind.i64.wrap (s.a + 0) = s.a + 0 := IntWalk.i64_in _ (by omega)
  have hl : (if s.a < 100 then s.a else 100) = up s.a 0 := by unfold up; rw [Int.add_zero]
  have HG := Lib.hid hg0
  clear hx hg0 hs
  go_enter Tryd.func27, Tryd.ntmps27
  go_wp2_with (first | (go_at_call 23; ((with_reducible refine (HA.out _ hg).mono ?_); rintro e w5 ⟨rfl, hb5⟩)))
  have hB5 := hB.below hb5 hB.lt
  have hg5 : Gl w5 := hg.next hb5
  have hO5 : On w w5 g := .of_below hb5
  have d6 : w5.cell? ⟨g, 6, none⟩ = some (.int .i64 1) := hB5.cell 6
  have dx : w5.cell? ⟨g, 2, none⟩ = some (.int .i64 s.a) := hB5.cell 2
  have dw : w5.cell? ⟨0, 2, none⟩ = some (.int .i64 0) := hg5.cell 2
  have fx := hB5.frozen 2
  clear hB hb5 hg hg5 c6 c7
  go_quiet (fail)
  go_wp2
  refine Q.wp_quiet_tail 16 (by kernel_rfl) (by kernel_rfl) ?_
  simp only [List.take_succ_cons, List.take_zero, List.drop_succ_cons, List.drop_zero]
  repeat go_big_quiet_step (fail)
  refine wpQuiet_nil ?_
  intro _ hw'
  obtain ⟨m, rfl⟩ := hw'
  go_wp2_with fail
  go_end0
  exact ⟨rfl, (hB5.drewN _).put 2 (.int .i64 (up s.a 0)), (hO5.drewN _).setCell 2 _⟩
set_option maxHeartbeats 4000000 in
set_option maxRecDepth 100000 in
theorem count_2 (s : Tm) (lv now : Int) (g : Nat) (w : World) (hs : Scores s) (ha : alarm 2 lv = true) (hB : Blk w g 55 (cv s 2 lv now)) (hg : Gl w) (hg0 : g ≠ 0) :
    Calls Tryd.prog 27 #[.pointer (some ⟨g, 0, none⟩)] w fun e w' => e = .returned (.tuple #[]) ∧ Blk w' g 55 (cv (bump s 2) 2 lv now) ∧ On w w' g := by
  have hA := alarm_known 2 lv (by omega) (by omega)
  rw [ha] at hA
  have HA := Lib.hid hA
  clear ha hA
  have c6 : w.cell? ⟨g, 6, none⟩ = some (.int .i64 2) := hB.cell 6
  have c7 : w.cell? ⟨g, 7, none⟩ = some (.int .i64 lv) := hB.cell 7
  have hx := hs.2.1
  have hx0 := hx.1
  have hx1 := hx.2
  have hw1 : IntKind.i64.wrap (s.b + 3) = s.b + 3 := IntWalk.i64_in _ (by omega)
  have hl : (if s.b + 3 < 100 then s.b + 3 else 100) = up s.b 3 := rfl
  have HG := Lib.hid hg0
  clear hx hg0 hs
  go_enter Tryd.func27, Tryd.ntmps27
  go_wp2_with (first | (go_at_call 23; ((with_reducible refine (HA.out _ hg).mono ?_); rintro e w5 ⟨rfl, hb5⟩)))
  have hB5 := hB.below hb5 hB.lt
  have hg5 : Gl w5 := hg.next hb5
  have hO5 : On w w5 g := .of_below hb5
  have d6 : w5.cell? ⟨g, 6, none⟩ = some (.int .i64 2) := hB5.cell 6
  have dx : w5.cell? ⟨g, 3, none⟩ = some (.int .i64 s.b) := hB5.cell 3
  have dw : w5.cell? ⟨0, 5, none⟩ = some (.int .i64 3) := hg5.cell 5
  have fx := hB5.frozen 3
  clear hB hb5 hg hg5 c6 c7
  go_quiet (fail)
  go_wp2
  refine Q.wp_quiet_tail 16 (by kernel_rfl) (by kernel_rfl) ?_
  simp only [List.take_succ_cons, List.take_zero, List.drop_succ_cons, List.drop_zero]
  repeat go_big_quiet_step (fail)
  refine wpQuiet_nil ?_
  intro _ hw'
  obtain ⟨m, rfl⟩ := hw'
  go_wp2_with fail
  go_end0
  exact ⟨rfl, (hB5.drewN _).put 3 (.int .i64 (up s.b 3)), (hO5.drewN _).setCell 3 _⟩
set_option maxHeartbeats 4000000 in
set_option maxRecDepth 100000 in
theorem count_3 (s : Tm) (lv now : Int) (g : Nat) (w : World) (hs : Scores s) (ha : alarm 3 lv = true) (hB : Blk w g 55 (cv s 3 lv now)) (hg : Gl w) (hg0 : g ≠ 0) :
    Calls Tryd.prog 27 #[.pointer (some ⟨g, 0, none⟩)] w fun e w' => e = .returned (.tuple #[]) ∧ Blk w' g 55 (cv (bump s 3) 3 lv now) ∧ On w w' g := by
  have hA := alarm_known 3 lv (by omega) (by omega)
  rw [ha] at hA
  have HA := Lib.hid hA
  clear ha hA
  have c6 : w.cell? ⟨g, 6, none⟩ = some (.int .i64 3) := hB.cell 6
  have c7 : w.cell? ⟨g, 7, none⟩ = some (.int .i64 lv) := hB.cell 7
  have hx := hs.2.2.1
  have hx0 := hx.1
  have hx1 := hx.2
  have hw1 : IntKind.i64.wrap (s.c + 1) = s.c + 1 := IntWalk.i64_in _ (by omega)
  have hl : (if s.c + 1 < 100 then s.c + 1 else 100) = up s.c 1 := rfl
  have HG := Lib.hid hg0
  clear hx hg0 hs
  go_enter Tryd.func27, Tryd.ntmps27
  go_wp2_with (first | (go_at_call 23; ((with_reducible refine (HA.out _ hg).mono ?_); rintro e w5 ⟨rfl, hb5⟩)))
  have hB5 := hB.below hb5 hB.lt
  have hg5 : Gl w5 := hg.next hb5
  have hO5 : On w w5 g := .of_below hb5
  have d6 : w5.cell? ⟨g, 6, none⟩ = some (.int .i64 3) := hB5.cell 6
  have dx : w5.cell? ⟨g, 4, none⟩ = some (.int .i64 s.c) := hB5.cell 4
  have dw : w5.cell? ⟨0, 8, none⟩ = some (.int .i64 1) := hg5.cell 8
  have fx := hB5.frozen 4
  clear hB hb5 hg hg5 c6 c7
  go_quiet (fail)
  go_wp2
  refine Q.wp_quiet_tail 16 (by kernel_rfl) (by kernel_rfl) ?_
  simp only [List.take_succ_cons, List.take_zero, List.drop_succ_cons, List.drop_zero]
  repeat go_big_quiet_step (fail)
  refine wpQuiet_nil ?_
  intro _ hw'
  obtain ⟨m, rfl⟩ := hw'
  go_wp2_with fail
  go_end0
  exact ⟨rfl, (hB5.drewN _).put 4 (.int .i64 (up s.c 1)), (hO5.drewN _).setCell 4 _⟩
set_option maxHeartbeats 4000000 in
set_option maxRecDepth 100000 in
theorem count_4 (s : Tm) (lv now : Int) (g : Nat) (w : World) (hs : Scores s) (ha : alarm 4 lv = true) (hB : Blk w g 55 (cv s 4 lv now)) (hg : Gl w) (hg0 : g ≠ 0) :
    Calls Tryd.prog 27 #[.pointer (some ⟨g, 0, none⟩)] w fun e w' => e = .returned (.tuple #[]) ∧ Blk w' g 55 (cv (bump s 4) 4 lv now) ∧ On w w' g := by
  have hA := alarm_known 4 lv (by omega) (by omega)
  rw [ha] at hA
  have HA := Lib.hid hA
  clear ha hA
  have c6 : w.cell? ⟨g, 6, none⟩ = some (.int .i64 4) := hB.cell 6
  have c7 : w.cell? ⟨g, 7, none⟩ = some (.int .i64 lv) := hB.cell 7
  have hx := hs.2.2.2
  have hx0 := hx.1
  have hx1 := hx.2
  have hw1 : IntKind.i64.wrap (s.d + 1) = s.d + 1 := IntWalk.i64_in _ (by omega)
  have hl : (if s.d + 1 < 100 then s.d + 1 else 100) = up s.d 1 := rfl
  have HG := Lib.hid hg0
  clear hx hg0 hs
  go_enter Tryd.func27, Tryd.ntmps27
  go_wp2_with (first | (go_at_call 23; ((with_reducible refine (HA.out _ hg).mono ?_); rintro e w5 ⟨rfl, hb5⟩)))
  have hB5 := hB.below hb5 hB.lt
  have hg5 : Gl w5 := hg.next hb5
  have hO5 : On w w5 g := .of_below hb5
  have d6 : w5.cell? ⟨g, 6, none⟩ = some (.int .i64 4) := hB5.cell 6
  have dx : w5.cell? ⟨g, 5, none⟩ = some (.int .i64 s.d) := hB5.cell 5
  have dw : w5.cell? ⟨0, 11, none⟩ = some (.int .i64 1) := hg5.cell 11
  have fx := hB5.frozen 5
  clear hB hb5 hg hg5 c6 c7
  go_quiet (fail)
  go_wp2
  refine Q.wp_quiet_tail 16 (by kernel_rfl) (by kernel_rfl) ?_
  simp only [List.take_succ_cons, List.take_zero, List.drop_succ_cons, List.drop_zero]
  repeat go_big_quiet_step (fail)
  refine wpQuiet_nil ?_
  intro _ hw'
  obtain ⟨m, rfl⟩ := hw'
  go_wp2_with fail
  go_end0
  exact ⟨rfl, (hB5.drewN _).put 5 (.int .i64 (up s.d 1)), (hO5.drewN _).setCell 5 _⟩
theorem count_walk (s : Tm) (sn lv now : Int) (g : Nat) (w : World) (hs : Scores s) (h0 : 1 ≤ sn) (h4 : sn ≤ 4) (hB : Blk w g 55 (cv s sn lv now)) (hg : Gl w) (hg0 : g ≠ 0) :
    Calls Tryd.prog 27 #[.pointer (some ⟨g, 0, none⟩)] w fun e w' => e = .returned (.tuple #[]) ∧ Blk w' g 55 (cv (counted s sn lv) sn lv now) ∧ On w w' g := by
  unfold counted
  cases ha : alarm sn lv
  · rw [if_neg (by simp)]
    exact count_none s sn lv now g w h0 h4 ha hB hg
  · rw [if_pos rfl]
    have hc : sn = 1 ∨ sn = 2 ∨ sn = 3 ∨ sn = 4 := by omega
    rcases hc with rfl | rfl | rfl | rfl
    · exact count_1 s lv now g w hs ha hB hg hg0
    · exact count_2 s lv now g w hs ha hB hg hg0
    · exact count_3 s lv now g w hs ha hB hg hg0
    · exact count_4 s lv now g w hs ha hB hg hg0
/-- The mode that an alarm leads to. -/
def goal (s : Tm) (sn : Int) : Int := if sn = 1 ∨ 12 ≤ tot s then 4 else if 6 ≤ tot s then 3 else if 1 ≤ tot s then 2 else s.m
def more (a b : Int) : Int := if a < b then b else a
def escalated (s : Tm) (sn lv : Int) : Tm := if alarm sn lv = true then ⟨more s.m (goal s sn), s.t, s.a, s.b, s.c, s.d⟩ else s
set_option maxHeartbeats 4000000 in
set_option maxRecDepth 100000 in
theorem esc_none (s : Tm) (sn lv now : Int) (g : Nat) (w : World) (hs : Scores s) (h0 : 1 ≤ sn) (h4 : sn ≤ 4) (ha : alarm sn lv = false) (T : Int) (hT : tot s = T) (hB : Blk w g 55 (cv s sn lv now)) (hg : Gl w) :
    Calls Tryd.prog 28 #[.pointer (some ⟨g, 0, none⟩)] w fun e w' => e = .returned (.tuple #[]) ∧ Blk w' g 55 (cv s sn lv now) ∧ On w w' g := by
  have hA := alarm_known sn lv h0 h4
  rw [ha] at hA
  have hcall : ∀ w, Calls Tryd.prog 13 #[.agg #[.int .i64 s.m, .int .i64 s.t, .int .i64 s.a, .int .i64 s.b, .int .i64 s.c, .int .i64 s.d]] w fun e w' => e = .returned (.int .i64 (tot s)) ∧ Below w.heap.size w w' := fun w => total_walk s w hs
  rw [hT] at hcall
  have HA := Lib.hid hA
  have HC := Lib.hid hcall
  clear ha hA hcall hT hs
  have c0 : w.cell? ⟨g, 0, none⟩ = some (.int .i64 s.m) := hB.cell 0
  have c1 : w.cell? ⟨g, 1, none⟩ = some (.int .i64 s.t) := hB.cell 1
  have c2 : w.cell? ⟨g, 2, none⟩ = some (.int .i64 s.a) := hB.cell 2
  have c3 : w.cell? ⟨g, 3, none⟩ = some (.int .i64 s.b) := hB.cell 3
  have c4 : w.cell? ⟨g, 4, none⟩ = some (.int .i64 s.c) := hB.cell 4
  have c5 : w.cell? ⟨g, 5, none⟩ = some (.int .i64 s.d) := hB.cell 5
  go_enter Tryd.func28, Tryd.ntmps28
  go_wp2_with (first | (go_at_call 13; ((with_reducible refine (HC.out _).mono ?_); rintro e w5 ⟨rfl, hb5⟩; have hB5 := hB.below hb5 hB.lt; have hg5 : Gl w5 := hg.next hb5; have hO5 : On w w5 g := .of_below hb5; have d6 : w5.cell? ⟨g, 6, none⟩ = some (.int .i64 sn) := hB5.cell 6; have d7 : w5.cell? ⟨g, 7, none⟩ = some (.int .i64 lv) := hB5.cell 7; clear c0 c1 c2 c3 c4 c5 hB hg)) | (go_at_call 23; ((with_reducible refine (HA.out _ hg5).mono ?_); rintro e w7 ⟨rfl, hb7⟩; have hB7 := hB5.below hb7 hB5.lt; have hO7 : On w w7 g := hO5.trans (.of_below hb7); have k0 : w7.cell? ⟨g, 0, none⟩ = some (.int .i64 s.m) := hB7.cell 0; have k6 : w7.cell? ⟨g, 6, none⟩ = some (.int .i64 sn) := hB7.cell 6; have f0 := hB7.frozen 0)))
  exact bodyPost_ret (results_none rfl _ _ _) rfl ⟨rfl, hB7, hO7⟩
set_option maxHeartbeats 4000000 in
set_option maxRecDepth 100000 in
theorem esc_mesh (s : Tm) (sn lv now : Int) (g : Nat) (w : World) (hs : Scores s) (h0 : 1 ≤ sn) (h4 : sn ≤ 4) (ha : alarm sn lv = true) (T : Int) (hT : tot s = T) (hc : sn = 1) (hB : Blk w g 55 (cv s sn lv now)) (hg : Gl w) :
    Calls Tryd.prog 28 #[.pointer (some ⟨g, 0, none⟩)] w fun e w' => e = .returned (.tuple #[]) ∧ Blk w' g 55 (cv ⟨more s.m 4, s.t, s.a, s.b, s.c, s.d⟩ sn lv now) ∧ On w w' g := by
  have hA := alarm_known sn lv h0 h4
  rw [ha] at hA
  have hcall : ∀ w, Calls Tryd.prog 13 #[.agg #[.int .i64 s.m, .int .i64 s.t, .int .i64 s.a, .int .i64 s.b, .int .i64 s.c, .int .i64 s.d]] w fun e w' => e = .returned (.int .i64 (tot s)) ∧ Below w.heap.size w w' := fun w => total_walk s w hs
  rw [hT] at hcall
  have HA := Lib.hid hA
  have HC := Lib.hid hcall
  clear ha hA hcall hT hs
  have hsn : (sn == 1) = true := by simp [hc]
  have hmore : (if s.m < 4 then 4 else s.m) = more s.m 4 := rfl
  clear hc
  have c0 : w.cell? ⟨g, 0, none⟩ = some (.int .i64 s.m) := hB.cell 0
  have c1 : w.cell? ⟨g, 1, none⟩ = some (.int .i64 s.t) := hB.cell 1
  have c2 : w.cell? ⟨g, 2, none⟩ = some (.int .i64 s.a) := hB.cell 2
  have c3 : w.cell? ⟨g, 3, none⟩ = some (.int .i64 s.b) := hB.cell 3
  have c4 : w.cell? ⟨g, 4, none⟩ = some (.int .i64 s.c) := hB.cell 4
  have c5 : w.cell? ⟨g, 5, none⟩ = some (.int .i64 s.d) := hB.cell 5
  go_enter Tryd.func28, Tryd.ntmps28
  go_wp2_with (first | (go_at_call 13; ((with_reducible refine (HC.out _).mono ?_); rintro e w5 ⟨rfl, hb5⟩; have hB5 := hB.below hb5 hB.lt; have hg5 : Gl w5 := hg.next hb5; have hO5 : On w w5 g := .of_below hb5; have d6 : w5.cell? ⟨g, 6, none⟩ = some (.int .i64 sn) := hB5.cell 6; have d7 : w5.cell? ⟨g, 7, none⟩ = some (.int .i64 lv) := hB5.cell 7; clear c0 c1 c2 c3 c4 c5 hB hg)) | (go_at_call 23; ((with_reducible refine (HA.out _ hg5).mono ?_); rintro e w7 ⟨rfl, hb7⟩; have hB7 := hB5.below hb7 hB5.lt; have hO7 : On w w7 g := hO5.trans (.of_below hb7); have k0 : w7.cell? ⟨g, 0, none⟩ = some (.int .i64 s.m) := hB7.cell 0; have k6 : w7.cell? ⟨g, 6, none⟩ = some (.int .i64 sn) := hB7.cell 6; have f0 := hB7.frozen 0)))
  go_end0
  exact ⟨rfl, hB7.put 0 (.int .i64 (more s.m 4)), hO7.setCell 0 _⟩
set_option maxHeartbeats 4000000 in
set_option maxRecDepth 100000 in
theorem esc_twelve (s : Tm) (sn lv now : Int) (g : Nat) (w : World) (hs : Scores s) (h0 : 1 ≤ sn) (h4 : sn ≤ 4) (ha : alarm sn lv = true) (T : Int) (hT : tot s = T) (hc : sn ≠ 1 ∧ 12 ≤ T) (hB : Blk w g 55 (cv s sn lv now)) (hg : Gl w) :
    Calls Tryd.prog 28 #[.pointer (some ⟨g, 0, none⟩)] w fun e w' => e = .returned (.tuple #[]) ∧ Blk w' g 55 (cv ⟨more s.m 4, s.t, s.a, s.b, s.c, s.d⟩ sn lv now) ∧ On w w' g := by
  have hA := alarm_known sn lv h0 h4
  rw [ha] at hA
  have hcall : ∀ w, Calls Tryd.prog 13 #[.agg #[.int .i64 s.m, .int .i64 s.t, .int .i64 s.a, .int .i64 s.b, .int .i64 s.c, .int .i64 s.d]] w fun e w' => e = .returned (.int .i64 (tot s)) ∧ Below w.heap.size w w' := fun w => total_walk s w hs
  rw [hT] at hcall
  have HA := Lib.hid hA
  have HC := Lib.hid hcall
  clear ha hA hcall hT hs
  have hsn : (sn == 1) = false := by simp [hc.1]
  have t1 := hc.2
  have hmore : (if s.m < 4 then 4 else s.m) = more s.m 4 := rfl
  clear hc
  have c0 : w.cell? ⟨g, 0, none⟩ = some (.int .i64 s.m) := hB.cell 0
  have c1 : w.cell? ⟨g, 1, none⟩ = some (.int .i64 s.t) := hB.cell 1
  have c2 : w.cell? ⟨g, 2, none⟩ = some (.int .i64 s.a) := hB.cell 2
  have c3 : w.cell? ⟨g, 3, none⟩ = some (.int .i64 s.b) := hB.cell 3
  have c4 : w.cell? ⟨g, 4, none⟩ = some (.int .i64 s.c) := hB.cell 4
  have c5 : w.cell? ⟨g, 5, none⟩ = some (.int .i64 s.d) := hB.cell 5
  go_enter Tryd.func28, Tryd.ntmps28
  go_wp2_with (first | (go_at_call 13; ((with_reducible refine (HC.out _).mono ?_); rintro e w5 ⟨rfl, hb5⟩; have hB5 := hB.below hb5 hB.lt; have hg5 : Gl w5 := hg.next hb5; have hO5 : On w w5 g := .of_below hb5; have d6 : w5.cell? ⟨g, 6, none⟩ = some (.int .i64 sn) := hB5.cell 6; have d7 : w5.cell? ⟨g, 7, none⟩ = some (.int .i64 lv) := hB5.cell 7; clear c0 c1 c2 c3 c4 c5 hB hg)) | (go_at_call 23; ((with_reducible refine (HA.out _ hg5).mono ?_); rintro e w7 ⟨rfl, hb7⟩; have hB7 := hB5.below hb7 hB5.lt; have hO7 : On w w7 g := hO5.trans (.of_below hb7); have k0 : w7.cell? ⟨g, 0, none⟩ = some (.int .i64 s.m) := hB7.cell 0; have k6 : w7.cell? ⟨g, 6, none⟩ = some (.int .i64 sn) := hB7.cell 6; have f0 := hB7.frozen 0)))
  go_end0
  exact ⟨rfl, hB7.put 0 (.int .i64 (more s.m 4)), hO7.setCell 0 _⟩
set_option maxHeartbeats 4000000 in
set_option maxRecDepth 100000 in
theorem esc_six (s : Tm) (sn lv now : Int) (g : Nat) (w : World) (hs : Scores s) (h0 : 1 ≤ sn) (h4 : sn ≤ 4) (ha : alarm sn lv = true) (T : Int) (hT : tot s = T) (hc : sn ≠ 1 ∧ T < 12 ∧ 6 ≤ T) (hB : Blk w g 55 (cv s sn lv now)) (hg : Gl w) :
    Calls Tryd.prog 28 #[.pointer (some ⟨g, 0, none⟩)] w fun e w' => e = .returned (.tuple #[]) ∧ Blk w' g 55 (cv ⟨more s.m 3, s.t, s.a, s.b, s.c, s.d⟩ sn lv now) ∧ On w w' g := by
  have hA := alarm_known sn lv h0 h4
  rw [ha] at hA
  have hcall : ∀ w, Calls Tryd.prog 13 #[.agg #[.int .i64 s.m, .int .i64 s.t, .int .i64 s.a, .int .i64 s.b, .int .i64 s.c, .int .i64 s.d]] w fun e w' => e = .returned (.int .i64 (tot s)) ∧ Below w.heap.size w w' := fun w => total_walk s w hs
  rw [hT] at hcall
  have HA := Lib.hid hA
  have HC := Lib.hid hcall
  clear ha hA hcall hT hs
  have hsn : (sn == 1) = false := by simp [hc.1]
  have t0 := hc.2.1
  have t1 := hc.2.2
  have d0 : decide (12 ≤ T) = false := decide_eq_false (by omega)
  have hmore : (if s.m < 3 then 3 else s.m) = more s.m 3 := rfl
  clear hc
  have c0 : w.cell? ⟨g, 0, none⟩ = some (.int .i64 s.m) := hB.cell 0
  have c1 : w.cell? ⟨g, 1, none⟩ = some (.int .i64 s.t) := hB.cell 1
  have c2 : w.cell? ⟨g, 2, none⟩ = some (.int .i64 s.a) := hB.cell 2
  have c3 : w.cell? ⟨g, 3, none⟩ = some (.int .i64 s.b) := hB.cell 3
  have c4 : w.cell? ⟨g, 4, none⟩ = some (.int .i64 s.c) := hB.cell 4
  have c5 : w.cell? ⟨g, 5, none⟩ = some (.int .i64 s.d) := hB.cell 5
  go_enter Tryd.func28, Tryd.ntmps28
  go_wp2_with (first | (go_at_call 13; ((with_reducible refine (HC.out _).mono ?_); rintro e w5 ⟨rfl, hb5⟩; have hB5 := hB.below hb5 hB.lt; have hg5 : Gl w5 := hg.next hb5; have hO5 : On w w5 g := .of_below hb5; have d6 : w5.cell? ⟨g, 6, none⟩ = some (.int .i64 sn) := hB5.cell 6; have d7 : w5.cell? ⟨g, 7, none⟩ = some (.int .i64 lv) := hB5.cell 7; clear c0 c1 c2 c3 c4 c5 hB hg)) | (go_at_call 23; ((with_reducible refine (HA.out _ hg5).mono ?_); rintro e w7 ⟨rfl, hb7⟩; have hB7 := hB5.below hb7 hB5.lt; have hO7 : On w w7 g := hO5.trans (.of_below hb7); have k0 : w7.cell? ⟨g, 0, none⟩ = some (.int .i64 s.m) := hB7.cell 0; have k6 : w7.cell? ⟨g, 6, none⟩ = some (.int .i64 sn) := hB7.cell 6; have f0 := hB7.frozen 0)))
  go_end0
  exact ⟨rfl, hB7.put 0 (.int .i64 (more s.m 3)), hO7.setCell 0 _⟩
set_option maxHeartbeats 4000000 in
set_option maxRecDepth 100000 in
theorem esc_one (s : Tm) (sn lv now : Int) (g : Nat) (w : World) (hs : Scores s) (h0 : 1 ≤ sn) (h4 : sn ≤ 4) (ha : alarm sn lv = true) (T : Int) (hT : tot s = T) (hc : sn ≠ 1 ∧ T < 6 ∧ 1 ≤ T) (hB : Blk w g 55 (cv s sn lv now)) (hg : Gl w) :
    Calls Tryd.prog 28 #[.pointer (some ⟨g, 0, none⟩)] w fun e w' => e = .returned (.tuple #[]) ∧ Blk w' g 55 (cv ⟨more s.m 2, s.t, s.a, s.b, s.c, s.d⟩ sn lv now) ∧ On w w' g := by
  have hA := alarm_known sn lv h0 h4
  rw [ha] at hA
  have hcall : ∀ w, Calls Tryd.prog 13 #[.agg #[.int .i64 s.m, .int .i64 s.t, .int .i64 s.a, .int .i64 s.b, .int .i64 s.c, .int .i64 s.d]] w fun e w' => e = .returned (.int .i64 (tot s)) ∧ Below w.heap.size w w' := fun w => total_walk s w hs
  rw [hT] at hcall
  have HA := Lib.hid hA
  have HC := Lib.hid hcall
  clear ha hA hcall hT hs
  have hsn : (sn == 1) = false := by simp [hc.1]
  have t0 := hc.2.1
  have t1 := hc.2.2
  have d0 : decide (12 ≤ T) = false := decide_eq_false (by omega)
  have d1 : decide (6 ≤ T) = false := decide_eq_false (by omega)
  have hmore : (if s.m < 2 then 2 else s.m) = more s.m 2 := rfl
  clear hc
  have c0 : w.cell? ⟨g, 0, none⟩ = some (.int .i64 s.m) := hB.cell 0
  have c1 : w.cell? ⟨g, 1, none⟩ = some (.int .i64 s.t) := hB.cell 1
  have c2 : w.cell? ⟨g, 2, none⟩ = some (.int .i64 s.a) := hB.cell 2
  have c3 : w.cell? ⟨g, 3, none⟩ = some (.int .i64 s.b) := hB.cell 3
  have c4 : w.cell? ⟨g, 4, none⟩ = some (.int .i64 s.c) := hB.cell 4
  have c5 : w.cell? ⟨g, 5, none⟩ = some (.int .i64 s.d) := hB.cell 5
  go_enter Tryd.func28, Tryd.ntmps28
  go_wp2_with (first | (go_at_call 13; ((with_reducible refine (HC.out _).mono ?_); rintro e w5 ⟨rfl, hb5⟩; have hB5 := hB.below hb5 hB.lt; have hg5 : Gl w5 := hg.next hb5; have hO5 : On w w5 g := .of_below hb5; have d6 : w5.cell? ⟨g, 6, none⟩ = some (.int .i64 sn) := hB5.cell 6; have d7 : w5.cell? ⟨g, 7, none⟩ = some (.int .i64 lv) := hB5.cell 7; clear c0 c1 c2 c3 c4 c5 hB hg)) | (go_at_call 23; ((with_reducible refine (HA.out _ hg5).mono ?_); rintro e w7 ⟨rfl, hb7⟩; have hB7 := hB5.below hb7 hB5.lt; have hO7 : On w w7 g := hO5.trans (.of_below hb7); have k0 : w7.cell? ⟨g, 0, none⟩ = some (.int .i64 s.m) := hB7.cell 0; have k6 : w7.cell? ⟨g, 6, none⟩ = some (.int .i64 sn) := hB7.cell 6; have f0 := hB7.frozen 0)))
  go_end0
  exact ⟨rfl, hB7.put 0 (.int .i64 (more s.m 2)), hO7.setCell 0 _⟩
set_option maxHeartbeats 4000000 in
set_option maxRecDepth 100000 in
theorem esc_nought (s : Tm) (sn lv now : Int) (g : Nat) (w : World) (hs : Scores s) (h0 : 1 ≤ sn) (h4 : sn ≤ 4) (ha : alarm sn lv = true) (T : Int) (hT : tot s = T) (hc : sn ≠ 1 ∧ T < 1) (hB : Blk w g 55 (cv s sn lv now)) (hg : Gl w) :
    Calls Tryd.prog 28 #[.pointer (some ⟨g, 0, none⟩)] w fun e w' => e = .returned (.tuple #[]) ∧ Blk w' g 55 (cv ⟨more s.m (s.m), s.t, s.a, s.b, s.c, s.d⟩ sn lv now) ∧ On w w' g := by
  have hA := alarm_known sn lv h0 h4
  rw [ha] at hA
  have hcall : ∀ w, Calls Tryd.prog 13 #[.agg #[.int .i64 s.m, .int .i64 s.t, .int .i64 s.a, .int .i64 s.b, .int .i64 s.c, .int .i64 s.d]] w fun e w' => e = .returned (.int .i64 (tot s)) ∧ Below w.heap.size w w' := fun w => total_walk s w hs
  rw [hT] at hcall
  have HA := Lib.hid hA
  have HC := Lib.hid hcall
  clear ha hA hcall hT hs
  have hsn : (sn == 1) = false := by simp [hc.1]
  have t0 := hc.2
  have d0 : decide (12 ≤ T) = false := decide_eq_false (by omega)
  have d1 : decide (6 ≤ T) = false := decide_eq_false (by omega)
  have d2 : decide (1 ≤ T) = false := decide_eq_false (by omega)
  clear hc
  have c0 : w.cell? ⟨g, 0, none⟩ = some (.int .i64 s.m) := hB.cell 0
  have c1 : w.cell? ⟨g, 1, none⟩ = some (.int .i64 s.t) := hB.cell 1
  have c2 : w.cell? ⟨g, 2, none⟩ = some (.int .i64 s.a) := hB.cell 2
  have c3 : w.cell? ⟨g, 3, none⟩ = some (.int .i64 s.b) := hB.cell 3
  have c4 : w.cell? ⟨g, 4, none⟩ = some (.int .i64 s.c) := hB.cell 4
  have c5 : w.cell? ⟨g, 5, none⟩ = some (.int .i64 s.d) := hB.cell 5
  go_enter Tryd.func28, Tryd.ntmps28
  go_wp2_with (first | (go_at_call 13; ((with_reducible refine (HC.out _).mono ?_); rintro e w5 ⟨rfl, hb5⟩; have hB5 := hB.below hb5 hB.lt; have hg5 : Gl w5 := hg.next hb5; have hO5 : On w w5 g := .of_below hb5; have d6 : w5.cell? ⟨g, 6, none⟩ = some (.int .i64 sn) := hB5.cell 6; have d7 : w5.cell? ⟨g, 7, none⟩ = some (.int .i64 lv) := hB5.cell 7; clear c0 c1 c2 c3 c4 c5 hB hg)) | (go_at_call 23; ((with_reducible refine (HA.out _ hg5).mono ?_); rintro e w7 ⟨rfl, hb7⟩; have hB7 := hB5.below hb7 hB5.lt; have hO7 : On w w7 g := hO5.trans (.of_below hb7); have k0 : w7.cell? ⟨g, 0, none⟩ = some (.int .i64 s.m) := hB7.cell 0; have k6 : w7.cell? ⟨g, 6, none⟩ = some (.int .i64 sn) := hB7.cell 6; have f0 := hB7.frozen 0)))
  go_end0
  have e1 : more s.m s.m = s.m := by unfold more; split <;> rfl
  exact ⟨rfl, by rw [e1]; exact hB7.put 0 (.int .i64 s.m), hO7.setCell 0 _⟩
theorem esc_walk (s : Tm) (sn lv now : Int) (g : Nat) (w : World) (hs : Scores s) (h0 : 1 ≤ sn) (h4 : sn ≤ 4) (hB : Blk w g 55 (cv s sn lv now)) (hg : Gl w) :
    Calls Tryd.prog 28 #[.pointer (some ⟨g, 0, none⟩)] w fun e w' => e = .returned (.tuple #[]) ∧ Blk w' g 55 (cv (escalated s sn lv) sn lv now) ∧ On w w' g := by
  unfold escalated
  cases ha : alarm sn lv
  · rw [if_neg (by simp)]
    exact esc_none s sn lv now g w hs h0 h4 ha _ rfl hB hg
  · rw [if_pos rfl]
    unfold goal
    by_cases c1 : sn = 1
    · rw [if_pos (.inl c1)]
      exact esc_mesh s sn lv now g w hs h0 h4 ha _ rfl c1 hB hg
    · by_cases c2 : 12 ≤ tot s
      · rw [if_pos (.inr c2)]
        exact esc_twelve s sn lv now g w hs h0 h4 ha _ rfl ⟨c1, c2⟩ hB hg
      · rw [if_neg (by omega)]
        by_cases c3 : 6 ≤ tot s
        · rw [if_pos c3]
          exact esc_six s sn lv now g w hs h0 h4 ha _ rfl ⟨c1, by omega, c3⟩ hB hg
        · rw [if_neg c3]
          by_cases c4 : 1 ≤ tot s
          · rw [if_pos c4]
            exact esc_one s sn lv now g w hs h0 h4 ha _ rfl ⟨c1, by omega, c4⟩ hB hg
          · rw [if_neg c4]
            exact esc_nought s sn lv now g w hs h0 h4 ha _ rfl ⟨c1, by omega⟩ hB hg
end Go.Proofs.YtjainkepgmdkiaaDoor.Tf
