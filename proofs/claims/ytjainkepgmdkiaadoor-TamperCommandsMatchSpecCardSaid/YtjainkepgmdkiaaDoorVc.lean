/-
  The specification of what is permitted. (Written by a program.)
-/
import Derived.Test.YtjainkepgmdkiaaDoorTp
namespace Go.Proofs.YtjainkepgmdkiaaDoor.Vc
open Go.RowKit Go.Proofs.YtjainkepgmdkiaaDoor.B Go.Proofs.YtjainkepgmdkiaaDoor.Tp
set_option maxHeartbeats 4000000
set_option maxRecDepth 100000
theorem r_low (m c : Int) (hm : m < 1) : Says 21 m c 1 := by
  intro w
  go_enter Tryd.func21, Tryd.ntmps21
  go_wp2
  go_ret
  exact ⟨rfl, rfl⟩
theorem r_high (m c : Int) (hm : 5 < m) : Says 21 m c 1 := by
  intro w
  have d1 : decide (m < 1) = false := decide_eq_false (by omega)
  go_enter Tryd.func21, Tryd.ntmps21
  go_wp2
  go_ret
  exact ⟨rfl, rfl⟩
theorem r_none (m c : Int) (h0 : 1 ≤ m) (h5 : m ≤ 5) (hc : c < 1) : Says 21 m c 1 := by
  intro w
  have d1 : decide (m < 1) = false := decide_eq_false (by omega)
  have d2 : decide (5 < m) = false := decide_eq_false (by omega)
  go_enter Tryd.func21, Tryd.ntmps21
  go_wp2
  go_ret
  exact ⟨rfl, rfl⟩
theorem r_more (m c : Int) (h0 : 1 ≤ m) (h5 : m ≤ 5) (hc : 27 < c) : Says 21 m c 1 := by
  intro w
  have d1 : decide (m < 1) = false := decide_eq_false (by omega)
  have d2 : decide (5 < m) = false := decide_eq_false (by omega)
  have d3 : decide (c < 1) = false := decide_eq_false (by omega)
  go_enter Tryd.func21, Tryd.ntmps21
  go_wp2
  go_ret
  exact ⟨rfl, rfl⟩
theorem r_end (m c : Int) (h4 : 4 ≤ m) (h5 : m ≤ 5) (c0 : 1 ≤ c) (c1 : c ≤ 27) : Says 21 m c 19 := by
  intro w
  have d1 : decide (m < 1) = false := decide_eq_false (by omega)
  have d2 : decide (5 < m) = false := decide_eq_false (by omega)
  have d3 : decide (c < 1) = false := decide_eq_false (by omega)
  have d4 : decide (27 < c) = false := decide_eq_false (by omega)
  have d5 : decide (4 ≤ m) = true := decide_eq_true (by omega)
  go_enter Tryd.func21, Tryd.ntmps21
  go_wp2
  go_ret
  exact ⟨rfl, rfl⟩
theorem r_1_2 : Says 21 1 2 0 := by
  intro w
  go_enter Tryd.func21, Tryd.ntmps21
  go_wp2
  go_ret
  exact ⟨rfl, rfl⟩
theorem r_1_3 : Says 21 1 3 0 := by
  intro w
  go_enter Tryd.func21, Tryd.ntmps21
  go_wp2
  go_ret
  exact ⟨rfl, rfl⟩
theorem r_1_14 : Says 21 1 14 0 := by
  intro w
  go_enter Tryd.func21, Tryd.ntmps21
  go_wp2
  go_ret
  exact ⟨rfl, rfl⟩
theorem r_1_15 : Says 21 1 15 0 := by
  intro w
  go_enter Tryd.func21, Tryd.ntmps21
  go_wp2
  go_ret
  exact ⟨rfl, rfl⟩
theorem r_1_16 : Says 21 1 16 0 := by
  intro w
  go_enter Tryd.func21, Tryd.ntmps21
  go_wp2
  go_ret
  exact ⟨rfl, rfl⟩
theorem r_1_18 : Says 21 1 18 0 := by
  intro w
  go_enter Tryd.func21, Tryd.ntmps21
  go_wp2
  go_ret
  exact ⟨rfl, rfl⟩
theorem r_1_19 : Says 21 1 19 0 := by
  intro w
  go_enter Tryd.func21, Tryd.ntmps21
  go_wp2
  go_ret
  exact ⟨rfl, rfl⟩
theorem r_1_21 : Says 21 1 21 0 := by
  intro w
  go_enter Tryd.func21, Tryd.ntmps21
  go_wp2
  go_ret
  exact ⟨rfl, rfl⟩
theorem r_1_20 : Says 21 1 20 0 := by
  intro w
  go_enter Tryd.func21, Tryd.ntmps21
  go_wp2
  go_ret
  exact ⟨rfl, rfl⟩
theorem r_1_up (c : Int) (c0 : 22 ≤ c) (c1 : c ≤ 27) : Says 21 1 c 0 := by
  intro w
  have d3 : decide (c < 1) = false := decide_eq_false (by omega)
  have d4 : decide (27 < c) = false := decide_eq_false (by omega)
  have d5 : decide (22 ≤ c) = true := decide_eq_true (by omega)
  have n2 : (c == 2) = false := by simp; omega
  have n3 : (c == 3) = false := by simp; omega
  have n14 : (c == 14) = false := by simp; omega
  have n15 : (c == 15) = false := by simp; omega
  have n16 : (c == 16) = false := by simp; omega
  have n18 : (c == 18) = false := by simp; omega
  have n19 : (c == 19) = false := by simp; omega
  have n21 : (c == 21) = false := by simp; omega
  have n20 : (c == 20) = false := by simp; omega
  go_enter Tryd.func21, Tryd.ntmps21
  go_wp2
  go_ret
  exact ⟨rfl, rfl⟩
theorem r_1_still (c : Int) (c0 : 1 ≤ c) (c1 : c < 22) (hn : c ≠ 2 ∧ c ≠ 3 ∧ c ≠ 14 ∧ c ≠ 15 ∧ c ≠ 16 ∧ c ≠ 18 ∧ c ≠ 19 ∧ c ≠ 21 ∧ c ≠ 20) : Says 21 1 c 0 := by
  intro w
  have d3 : decide (c < 1) = false := decide_eq_false (by omega)
  have d4 : decide (27 < c) = false := decide_eq_false (by omega)
  have d5 : decide (22 ≤ c) = false := decide_eq_false (by omega)
  have n2 : (c == 2) = false := by simp; omega
  have n3 : (c == 3) = false := by simp; omega
  have n14 : (c == 14) = false := by simp; omega
  have n15 : (c == 15) = false := by simp; omega
  have n16 : (c == 16) = false := by simp; omega
  have n18 : (c == 18) = false := by simp; omega
  have n19 : (c == 19) = false := by simp; omega
  have n21 : (c == 21) = false := by simp; omega
  have n20 : (c == 20) = false := by simp; omega
  clear hn
  go_enter Tryd.func21, Tryd.ntmps21
  go_wp2
  go_ret
  exact ⟨rfl, rfl⟩
theorem r_2_2 : Says 21 2 2 18 := by
  intro w
  go_enter Tryd.func21, Tryd.ntmps21
  go_wp2
  go_ret
  exact ⟨rfl, rfl⟩
theorem r_2_3 : Says 21 2 3 18 := by
  intro w
  go_enter Tryd.func21, Tryd.ntmps21
  go_wp2
  go_ret
  exact ⟨rfl, rfl⟩
theorem r_2_14 : Says 21 2 14 18 := by
  intro w
  go_enter Tryd.func21, Tryd.ntmps21
  go_wp2
  go_ret
  exact ⟨rfl, rfl⟩
theorem r_2_15 : Says 21 2 15 18 := by
  intro w
  go_enter Tryd.func21, Tryd.ntmps21
  go_wp2
  go_ret
  exact ⟨rfl, rfl⟩
theorem r_2_16 : Says 21 2 16 18 := by
  intro w
  go_enter Tryd.func21, Tryd.ntmps21
  go_wp2
  go_ret
  exact ⟨rfl, rfl⟩
theorem r_2_18 : Says 21 2 18 18 := by
  intro w
  go_enter Tryd.func21, Tryd.ntmps21
  go_wp2
  go_ret
  exact ⟨rfl, rfl⟩
theorem r_2_19 : Says 21 2 19 18 := by
  intro w
  go_enter Tryd.func21, Tryd.ntmps21
  go_wp2
  go_ret
  exact ⟨rfl, rfl⟩
theorem r_2_21 : Says 21 2 21 18 := by
  intro w
  go_enter Tryd.func21, Tryd.ntmps21
  go_wp2
  go_ret
  exact ⟨rfl, rfl⟩
theorem r_2_20 : Says 21 2 20 0 := by
  intro w
  go_enter Tryd.func21, Tryd.ntmps21
  go_wp2
  go_ret
  exact ⟨rfl, rfl⟩
theorem r_2_up (c : Int) (c0 : 22 ≤ c) (c1 : c ≤ 27) : Says 21 2 c 0 := by
  intro w
  have d3 : decide (c < 1) = false := decide_eq_false (by omega)
  have d4 : decide (27 < c) = false := decide_eq_false (by omega)
  have d5 : decide (22 ≤ c) = true := decide_eq_true (by omega)
  have n2 : (c == 2) = false := by simp; omega
  have n3 : (c == 3) = false := by simp; omega
  have n14 : (c == 14) = false := by simp; omega
  have n15 : (c == 15) = false := by simp; omega
  have n16 : (c == 16) = false := by simp; omega
  have n18 : (c == 18) = false := by simp; omega
  have n19 : (c == 19) = false := by simp; omega
  have n21 : (c == 21) = false := by simp; omega
  have n20 : (c == 20) = false := by simp; omega
  go_enter Tryd.func21, Tryd.ntmps21
  go_wp2
  go_ret
  exact ⟨rfl, rfl⟩
theorem r_2_still (c : Int) (c0 : 1 ≤ c) (c1 : c < 22) (hn : c ≠ 2 ∧ c ≠ 3 ∧ c ≠ 14 ∧ c ≠ 15 ∧ c ≠ 16 ∧ c ≠ 18 ∧ c ≠ 19 ∧ c ≠ 21 ∧ c ≠ 20) : Says 21 2 c 0 := by
  intro w
  have d3 : decide (c < 1) = false := decide_eq_false (by omega)
  have d4 : decide (27 < c) = false := decide_eq_false (by omega)
  have d5 : decide (22 ≤ c) = false := decide_eq_false (by omega)
  have n2 : (c == 2) = false := by simp; omega
  have n3 : (c == 3) = false := by simp; omega
  have n14 : (c == 14) = false := by simp; omega
  have n15 : (c == 15) = false := by simp; omega
  have n16 : (c == 16) = false := by simp; omega
  have n18 : (c == 18) = false := by simp; omega
  have n19 : (c == 19) = false := by simp; omega
  have n21 : (c == 21) = false := by simp; omega
  have n20 : (c == 20) = false := by simp; omega
  clear hn
  go_enter Tryd.func21, Tryd.ntmps21
  go_wp2
  go_ret
  exact ⟨rfl, rfl⟩
theorem r_3_2 : Says 21 3 2 18 := by
  intro w
  go_enter Tryd.func21, Tryd.ntmps21
  go_wp2
  go_ret
  exact ⟨rfl, rfl⟩
theorem r_3_3 : Says 21 3 3 18 := by
  intro w
  go_enter Tryd.func21, Tryd.ntmps21
  go_wp2
  go_ret
  exact ⟨rfl, rfl⟩
theorem r_3_14 : Says 21 3 14 18 := by
  intro w
  go_enter Tryd.func21, Tryd.ntmps21
  go_wp2
  go_ret
  exact ⟨rfl, rfl⟩
theorem r_3_15 : Says 21 3 15 18 := by
  intro w
  go_enter Tryd.func21, Tryd.ntmps21
  go_wp2
  go_ret
  exact ⟨rfl, rfl⟩
theorem r_3_16 : Says 21 3 16 18 := by
  intro w
  go_enter Tryd.func21, Tryd.ntmps21
  go_wp2
  go_ret
  exact ⟨rfl, rfl⟩
theorem r_3_18 : Says 21 3 18 18 := by
  intro w
  go_enter Tryd.func21, Tryd.ntmps21
  go_wp2
  go_ret
  exact ⟨rfl, rfl⟩
theorem r_3_19 : Says 21 3 19 18 := by
  intro w
  go_enter Tryd.func21, Tryd.ntmps21
  go_wp2
  go_ret
  exact ⟨rfl, rfl⟩
theorem r_3_21 : Says 21 3 21 18 := by
  intro w
  go_enter Tryd.func21, Tryd.ntmps21
  go_wp2
  go_ret
  exact ⟨rfl, rfl⟩
theorem r_3_20 : Says 21 3 20 0 := by
  intro w
  go_enter Tryd.func21, Tryd.ntmps21
  go_wp2
  go_ret
  exact ⟨rfl, rfl⟩
theorem r_3_up (c : Int) (c0 : 22 ≤ c) (c1 : c ≤ 27) : Says 21 3 c 0 := by
  intro w
  have d3 : decide (c < 1) = false := decide_eq_false (by omega)
  have d4 : decide (27 < c) = false := decide_eq_false (by omega)
  have d5 : decide (22 ≤ c) = true := decide_eq_true (by omega)
  have n2 : (c == 2) = false := by simp; omega
  have n3 : (c == 3) = false := by simp; omega
  have n14 : (c == 14) = false := by simp; omega
  have n15 : (c == 15) = false := by simp; omega
  have n16 : (c == 16) = false := by simp; omega
  have n18 : (c == 18) = false := by simp; omega
  have n19 : (c == 19) = false := by simp; omega
  have n21 : (c == 21) = false := by simp; omega
  have n20 : (c == 20) = false := by simp; omega
  go_enter Tryd.func21, Tryd.ntmps21
  go_wp2
  go_ret
  exact ⟨rfl, rfl⟩
theorem r_3_still (c : Int) (c0 : 1 ≤ c) (c1 : c < 22) (hn : c ≠ 2 ∧ c ≠ 3 ∧ c ≠ 14 ∧ c ≠ 15 ∧ c ≠ 16 ∧ c ≠ 18 ∧ c ≠ 19 ∧ c ≠ 21 ∧ c ≠ 20) : Says 21 3 c 18 := by
  intro w
  have d3 : decide (c < 1) = false := decide_eq_false (by omega)
  have d4 : decide (27 < c) = false := decide_eq_false (by omega)
  have d5 : decide (22 ≤ c) = false := decide_eq_false (by omega)
  have n2 : (c == 2) = false := by simp; omega
  have n3 : (c == 3) = false := by simp; omega
  have n14 : (c == 14) = false := by simp; omega
  have n15 : (c == 15) = false := by simp; omega
  have n16 : (c == 16) = false := by simp; omega
  have n18 : (c == 18) = false := by simp; omega
  have n19 : (c == 19) = false := by simp; omega
  have n21 : (c == 21) = false := by simp; omega
  have n20 : (c == 20) = false := by simp; omega
  clear hn
  go_enter Tryd.func21, Tryd.ntmps21
  go_wp2
  go_ret
  exact ⟨rfl, rfl⟩
theorem rpermits (m c : Int) : Says 21 m c (permE m c) := by
  by_cases hm0 : m < 1
  · have e : permE m c = 1 := by unfold permE; rw [if_pos (by omega)]
    rw [e]; exact r_low m c hm0
  by_cases hm5 : 5 < m
  · have e : permE m c = 1 := by unfold permE; rw [if_pos (by omega)]
    rw [e]; exact r_high m c hm5
  by_cases hc0 : c < 1
  · have e : permE m c = 1 := by unfold permE; rw [if_pos (by omega)]
    rw [e]; exact r_none m c (by omega) (by omega) hc0
  by_cases hc1 : 27 < c
  · have e : permE m c = 1 := by unfold permE; rw [if_pos (by omega)]
    rw [e]; exact r_more m c (by omega) (by omega) hc1
  by_cases hm4 : 4 ≤ m
  · have e : permE m c = 19 := by unfold permE; rw [if_neg (by omega), if_pos hm4]
    rw [e]; exact r_end m c hm4 (by omega) (by omega) (by omega)
  have hm : m = 1 ∨ m = 2 ∨ m = 3 := by omega
  by_cases hu : 22 ≤ c
  · have e1 : mv c = false := by simp [mv]; omega
    have e2 : sf c = true := by simp [sf]; omega
    have e : permE m c = 0 := by unfold permE; rw [if_neg (by omega), if_neg hm4, if_neg (fun h => by rw [e1] at h; exact absurd h.2 (by decide)), if_neg (fun h => by rw [e2] at h; exact absurd h.2 (by decide))]
    rw [e]
    rcases hm with rfl | rfl | rfl
    · exact r_1_up c hu (by omega)
    · exact r_2_up c hu (by omega)
    · exact r_3_up c hu (by omega)
  by_cases hs : c = 2 ∨ c = 3 ∨ c = 14 ∨ c = 15 ∨ c = 16 ∨ c = 18 ∨ c = 19 ∨ c = 21 ∨ c = 20
  · rcases hm with rfl | rfl | rfl <;> rcases hs with rfl | rfl | rfl | rfl | rfl | rfl | rfl | rfl | rfl
    · exact r_1_2
    · exact r_1_3
    · exact r_1_14
    · exact r_1_15
    · exact r_1_16
    · exact r_1_18
    · exact r_1_19
    · exact r_1_21
    · exact r_1_20
    · exact r_2_2
    · exact r_2_3
    · exact r_2_14
    · exact r_2_15
    · exact r_2_16
    · exact r_2_18
    · exact r_2_19
    · exact r_2_21
    · exact r_2_20
    · exact r_3_2
    · exact r_3_3
    · exact r_3_14
    · exact r_3_15
    · exact r_3_16
    · exact r_3_18
    · exact r_3_19
    · exact r_3_21
    · exact r_3_20
  · have hn : c ≠ 2 ∧ c ≠ 3 ∧ c ≠ 14 ∧ c ≠ 15 ∧ c ≠ 16 ∧ c ≠ 18 ∧ c ≠ 19 ∧ c ≠ 21 ∧ c ≠ 20 := by omega
    have e1 : mv c = false := by simp [mv]; omega
    have e2 : sf c = false := by simp [sf]; omega
    rcases hm with rfl | rfl | rfl
    · have e : permE 1 c = 0 := by unfold permE; rw [if_neg (by omega), if_neg (by omega), if_neg (fun h => by rw [e1] at h; exact absurd h.2 (by decide)), if_neg (fun h => absurd h.1 (by decide))]
      rw [e]; exact r_1_still c (by omega) (by omega) hn
    · have e : permE 2 c = 0 := by unfold permE; rw [if_neg (by omega), if_neg (by omega), if_neg (fun h => by rw [e1] at h; exact absurd h.2 (by decide)), if_neg (fun h => absurd h.1 (by decide))]
      rw [e]; exact r_2_still c (by omega) (by omega) hn
    · have e : permE 3 c = 18 := by unfold permE; rw [if_neg (by omega), if_neg (by omega), if_neg (fun h => by rw [e1] at h; exact absurd h.2 (by decide)), if_pos ⟨rfl, e2⟩]
      rw [e]; exact r_3_still c (by omega) (by omega) hn
end Go.Proofs.YtjainkepgmdkiaaDoor.Vc
