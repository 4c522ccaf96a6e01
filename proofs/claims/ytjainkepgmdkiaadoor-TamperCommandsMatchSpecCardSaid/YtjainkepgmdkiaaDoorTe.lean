/-
  Time passes: the walk of the method pass.
-/
import Derived.Test.YtjainkepgmdkiaaDoorTz
namespace Go.Proofs.YtjainkepgmdkiaaDoor.Te
open Go.RowKit Go.Proofs.YtjainkepgmdkiaaDoor.B Go.Proofs.YtjainkepgmdkiaaDoor.Ta Go.Proofs.YtjainkepgmdkiaaDoor.Tb Go.Proofs.YtjainkepgmdkiaaDoor.Tc Go.Proofs.YtjainkepgmdkiaaDoor.Tz
attribute [local go_sem] max2_int min2_int max_two min_two

/-- The cells of a change: its state, its reading, its time. -/
def cv (s : Tm) (sn lv now : Int) : Array Value := #[.int .i64 s.m, .int .i64 s.t, .int .i64 s.a, .int .i64 s.b, .int .i64 s.c, .int .i64 s.d, .int .i64 sn, .int .i64 lv, .int .i64 now]
/-- A score behind K periods. -/
def low (x K : Int) : Int := if K < x then x - K else 0
theorem low_bound {x K : Int} (h : 0 ≤ x ∧ x ≤ 100) (hK : 0 ≤ K) : 0 ≤ low x K ∧ low x K ≤ 100 := by unfold low; split <;> omega
/-- The first i scores behind K periods. -/
def pk (s : Tm) (K : Int) (i : Nat) : Tm := ⟨s.m, s.t, if 0 < i then low s.a K else s.a, if 1 < i then low s.b K else s.b, if 2 < i then low s.c K else s.c, if 3 < i then low s.d K else s.d⟩
/-- The state behind K periods. -/
def late (s : Tm) (K : Int) : Tm := ⟨s.m, s.t + 60 * K, low s.a K, low s.b K, low s.c K, low s.d K⟩
def passedK (s : Tm) (K : Int) : Tm := ⟨if s.m = 2 ∧ tot (late s K) = 0 then 1 else s.m, s.t + 60 * K, low s.a K, low s.b K, low s.c K, low s.d K⟩
theorem late_scores {s : Tm} (h : Scores s) {K : Int} (hK : 0 ≤ K) : Scores (late s K) := ⟨low_bound h.1 hK, low_bound h.2.1 hK, low_bound h.2.2.1 hK, low_bound h.2.2.2 hK⟩

set_option maxHeartbeats 4000000 in
set_option maxRecDepth 100000 in
theorem pass_walk (s : Tm) (sn lv now : Int) (g : Nat) (w : World) (hs : Scores s) (ht : 0 ≤ s.t) (h1 : s.t ≤ now) (h2 : now ≤ 1099511627776) (hB : Blk w g 55 (cv s sn lv now)) :
    Calls Tryd.prog 26 #[.pointer (some ⟨g, 0, none⟩)] w fun e w' => e = .returned (.tuple #[]) ∧ Blk w' g 55 (cv (passedK s ((now - s.t) / 60)) sn lv now) ∧ On w w' g := by
  have c8 : w.cell? ⟨g, 8, none⟩ = some (.int .i64 now) := hB.cell 8
  have c1 : w.cell? ⟨g, 1, none⟩ = some (.int .i64 s.t) := hB.cell 1
  obtain ⟨K, hK⟩ : ∃ K, (now - s.t) / 60 = K := ⟨_, rfl⟩
  have hK0 : 0 ≤ K := by omega
  have hK1 : K ≤ 20000000000 := by omega
  have hK2 : s.t + 60 * K ≤ now := by omega
  have dK : IntKind.i64.wrap (now - s.t) = now - s.t := IntWalk.i64_in _ (by omega)
  have dK2 : (now - s.t).tdiv 60 = K := by rw [Int.tdiv_eq_ediv_of_nonneg (by omega)]; exact hK
  rw [hK]
  go_enter Tryd.func26, Tryd.ntmps26
  go_wp2
  go_quiet (fail)
  go_wp2
  have hB0 := hB.drewN nq
  have hO0 := (On.refl w g).drewN nq
  clear c8 c1 hB dK dK2
  generalize w.drewN nq = w0 at hB0 hO0 ⊢
  go_loopw [3, 15] (fun v3 v15 wr => ∃ i : Nat, i ≤ 4 ∧ v15 = .int .i64 (i : Int) ∧ Blk wr g 55 (cv (pk s K i) sn lv now) ∧ On w wr g) (fun _ v15 _ => 4 - (intOf v15).toNat)
  case atStart => exact ⟨0, by omega, rfl, hB0, hO0⟩
  case round =>
    clear hB0 hO0
    obtain ⟨i, hi, rfl, hB, hO⟩ := hrel
    by_cases hlt : i < 4
    · have hc : i = 0 ∨ i = 1 ∨ i = 2 ∨ i = 3 := by omega
      clear hlt hi
      rcases hc with rfl | rfl | rfl | rfl
      · have c1 : wr.cell? ⟨g, 2, none⟩ = some (.int .i64 s.a) := hB.cell 2
        have f1 := hB.frozen 2
        have hx := hs.1
        have hx0 := hx.1
        have hx1 := hx.2
        have hp := fun m => (hB.drewN m).put 2 (.int .i64 (low s.a K))
        have hp2 : (cv (pk s K 0) sn lv now).setIfInBounds 2 (.int .i64 (low s.a K)) = cv (pk s K 1) sn lv now := rfl
        simp only [hp2] at hp
        have ho := fun m => (hO.drewN m).setCell 2 (.int .i64 (low s.a K))
        have hl : (if K < s.a then s.a - K else 0) = low s.a K := rfl
        have hw1 : IntKind.i64.wrap (s.a - K) = s.a - K := IntWalk.i64_in _ (by omega)
        clear hx hB hp2
        go_wp2
        refine Q.wp_quiet_tail 16 (by kernel_rfl) (by kernel_rfl) ?_
        simp only [List.take_succ_cons, List.take_zero, List.drop_succ_cons, List.drop_zero]
        repeat go_big_quiet_step (fail)
        refine wpQuiet_nil ?_
        intro _ hw'
        obtain ⟨m, rfl⟩ := hw'
        go_wp2_with fail
        go_roundw
        case rel => exact ⟨1, by omega, by go_num, hp m, ho m⟩
        case measure => simp [intOf]
      · have c1 : wr.cell? ⟨g, 3, none⟩ = some (.int .i64 s.b) := hB.cell 3
        have f1 := hB.frozen 3
        have hx := hs.2.1
        have hx0 := hx.1
        have hx1 := hx.2
        have hp := fun m => (hB.drewN m).put 3 (.int .i64 (low s.b K))
        have hp2 : (cv (pk s K 1) sn lv now).setIfInBounds 3 (.int .i64 (low s.b K)) = cv (pk s K 2) sn lv now := rfl
        simp only [hp2] at hp
        have ho := fun m => (hO.drewN m).setCell 3 (.int .i64 (low s.b K))
        have hl : (if K < s.b then s.b - K else 0) = low s.b K := rfl
        have hw1 : IntKind.i64.wrap (s.b - K) = s.b - K := IntWalk.i64_in _ (by omega)
        clear hx hB hp2
        go_wp2
        refine Q.wp_quiet_tail 16 (by kernel_rfl) (by kernel_rfl) ?_
        simp only [List.take_succ_cons, List.take_zero, List.drop_succ_cons, List.drop_zero]
        repeat go_big_quiet_step (fail)
        refine wpQuiet_nil ?_
        intro _ hw'
        obtain ⟨m, rfl⟩ := hw'
        go_wp2_with fail
        go_roundw
        case rel => exact ⟨2, by omega, by go_num, hp m, ho m⟩
        case measure => simp [intOf]
      · have c1 : wr.cell? ⟨g, 4, none⟩ = some (.int .i64 s.c) := hB.cell 4
        have f1 := hB.frozen 4
        have hx := hs.2.2.1
        have hx0 := hx.1
        have hx1 := hx.2
        have hp := fun m => (hB.drewN m).put 4 (.int .i64 (low s.c K))
        have hp2 : (cv (pk s K 2) sn lv now).setIfInBounds 4 (.int .i64 (low s.c K)) = cv (pk s K 3) sn lv now := rfl
        simp only [hp2] at hp
        have ho := fun m => (hO.drewN m).setCell 4 (.int .i64 (low s.c K))
        have hl : (if K < s.c then s.c - K else 0) = low s.c K := rfl
        have hw1 : IntKind.i64.wrap (s.c - K) = s.c - K := IntWalk.i64_in _ (by omega)
        clear hx hB hp2
        go_wp2
        refine Q.wp_quiet_tail 16 (by kernel_rfl) (by kernel_rfl) ?_
        simp only [List.take_succ_cons, List.take_zero, List.drop_succ_cons, List.drop_zero]
        repeat go_big_quiet_step (fail)
        refine wpQuiet_nil ?_
        intro _ hw'
        obtain ⟨m, rfl⟩ := hw'
        go_wp2_with fail
        go_roundw
        case rel => exact ⟨3, by omega, by go_num, hp m, ho m⟩
        case measure => simp [intOf]
      · have c1 : wr.cell? ⟨g, 5, none⟩ = some (.int .i64 s.d) := hB.cell 5
        have f1 := hB.frozen 5
        have hx := hs.2.2.2
        have hx0 := hx.1
        have hx1 := hx.2
        have hp := fun m => (hB.drewN m).put 5 (.int .i64 (low s.d K))
        have hp2 : (cv (pk s K 3) sn lv now).setIfInBounds 5 (.int .i64 (low s.d K)) = cv (pk s K 4) sn lv now := rfl
        simp only [hp2] at hp
        have ho := fun m => (hO.drewN m).setCell 5 (.int .i64 (low s.d K))
        have hl : (if K < s.d then s.d - K else 0) = low s.d K := rfl
        have hw1 : IntKind.i64.wrap (s.d - K) = s.d - K := IntWalk.i64_in _ (by omega)
        clear hx hB hp2
        go_wp2
        refine Q.wp_quiet_tail 16 (by kernel_rfl) (by kernel_rfl) ?_
        simp only [List.take_succ_cons, List.take_zero, List.drop_succ_cons, List.drop_zero]
        repeat go_big_quiet_step (fail)
        refine wpQuiet_nil ?_
        intro _ hw'
        obtain ⟨m, rfl⟩ := hw'
        go_wp2_with fail
        go_roundw
        case rel => exact ⟨4, by omega, by go_num, hp m, ho m⟩
        case measure => simp [intOf]
    · obtain rfl : i = 4 := by omega
      clear hlt hi
      have hB4 : Blk wr g 55 (cv ⟨s.m, s.t, low s.a K, low s.b K, low s.c K, low s.d K⟩ sn lv now) := hB
      have b2 := low_bound hs.1 hK0
      have b3 := low_bound hs.2.1 hK0
      have b4 := low_bound hs.2.2.1 hK0
      have b5 := low_bound hs.2.2.2 hK0
      have hT := late_scores hs hK0
      have hcall : ∀ w, Calls Tryd.prog 13 #[.agg #[.int .i64 s.m, .int .i64 (s.t + 60 * K), .int .i64 (low s.a K), .int .i64 (low s.b K), .int .i64 (low s.c K), .int .i64 (low s.d K)]] w fun e w' => e = .returned (.int .i64 (tot (late s K))) ∧ Below w.heap.size w w' := fun w => total_walk (late s K) w hT
      have hpu := hB4.put 1 (.int .i64 (s.t + 60 * K))
      have hp1 : Blk (wr.setCell ⟨g, 1, none⟩ (.int .i64 (s.t + 60 * K))) g 55 (cv (late s K) sn lv now) := hpu
      have hO1 := hO.setCell 1 (.int .i64 (s.t + 60 * K))
      have hpd : s.m ≠ 2 ∨ tot (late s K) ≠ 0 → late s K = passedK s K := fun h => by
        unfold passedK late
        rw [if_neg (by unfold late at h; omega)]
      have hpe : s.m = 2 ∧ tot (late s K) = 0 → (⟨1, s.t + 60 * K, low s.a K, low s.b K, low s.c K, low s.d K⟩ : Tm) = passedK s K := fun h => by
        unfold passedK
        rw [if_pos h]
      have HC := Lib.hid hcall
      have HPD := Lib.hid hpd
      have HPE := Lib.hid hpe
      have c0 : wr.cell? ⟨g, 0, none⟩ = some (.int .i64 s.m) := hB4.cell 0
      have c1 : wr.cell? ⟨g, 1, none⟩ = some (.int .i64 s.t) := hB4.cell 1
      have c2 : wr.cell? ⟨g, 2, none⟩ = some (.int .i64 (low s.a K)) := hB4.cell 2
      have c3 : wr.cell? ⟨g, 3, none⟩ = some (.int .i64 (low s.b K)) := hB4.cell 3
      have c4 : wr.cell? ⟨g, 4, none⟩ = some (.int .i64 (low s.c K)) := hB4.cell 4
      have c5 : wr.cell? ⟨g, 5, none⟩ = some (.int .i64 (low s.d K)) := hB4.cell 5
      have f1 := hB4.frozen 1
      clear hcall hpd hpe hpu hB hB4 hO hs hT
      by_cases hm : s.m = 2
      · have z2 : (s.m == 2) = true := by simp [hm]
        have HM := Lib.hid hm
        clear hm
        generalize hTT : tot (late s K) = T at HC HPD HPE
        have HTT := Lib.hid hTT
        clear hTT
        by_cases h0 : T = 0
        · have z0 : (T == 0) = true := by simp [h0]
          have H0 := Lib.hid h0
          clear h0
          go_wp2_with (first | (go_at_call 13; ((with_reducible refine (HC.out _).mono ?_); rintro e w5 ⟨rfl, hb5⟩; have hp5 := hp1.below hb5 hp1.lt; have hO5 := hO1.trans (On.of_below hb5); have f5 := hp5.frozen 0; have c50 : w5.cell? ⟨g, 0, none⟩ = some (.int .i64 s.m) := hp5.cell 0)))
          go_end0
          exact ⟨rfl, by rw [← HPE.out ⟨HM.out, H0.out⟩]; exact hp5.put 0 (.int .i64 1), hO5.setCell 0 _⟩
        · have z0 : (T == 0) = false := by simp [h0]
          have H0 := Lib.hid h0
          clear h0
          go_wp2_with (first | (go_at_call 13; ((with_reducible refine (HC.out _).mono ?_); rintro e w5 ⟨rfl, hb5⟩; have hp5 := hp1.below hb5 hp1.lt; have hO5 := hO1.trans (On.of_below hb5))))
          go_end0
          exact ⟨rfl, by rw [← HPD.out (.inr H0.out)]; exact hp5, hO5⟩
      · have z2 : (s.m == 2) = false := by simp [hm]
        have HM := Lib.hid hm
        clear hm
        go_wp2
        go_end0
        exact ⟨rfl, by rw [← HPD.out (.inl HM.out)]; exact hp1, hO1⟩
end Go.Proofs.YtjainkepgmdkiaaDoor.Te
