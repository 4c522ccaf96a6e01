/-
  The example of the documentation: the walk of sanity: it returns true (printed by gents.py).
-/
import Derived.Test.YtjainkepgmdkiaaDoorTk
import Derived.Test.YtjainkepgmdkiaaDoorTp
import Derived.Test.YtjainkepgmdkiaaDoorTd
namespace Go.Proofs.YtjainkepgmdkiaaDoor.Ts
open Go.RowKit Go.Proofs.YtjainkepgmdkiaaDoor.Td Go.Proofs.YtjainkepgmdkiaaDoor.B Go.Proofs.YtjainkepgmdkiaaDoor.Ta Go.Proofs.YtjainkepgmdkiaaDoor.Tb Go.Proofs.YtjainkepgmdkiaaDoor.Tc Go.Proofs.YtjainkepgmdkiaaDoor.Tz Go.Proofs.YtjainkepgmdkiaaDoor.Te Go.Proofs.YtjainkepgmdkiaaDoor.Tf Go.Proofs.YtjainkepgmdkiaaDoor.Tg Go.Proofs.YtjainkepgmdkiaaDoor.Th Go.Proofs.YtjainkepgmdkiaaDoor.Ti Go.Proofs.YtjainkepgmdkiaaDoor.Tj Go.Proofs.YtjainkepgmdkiaaDoor.Tk Go.Proofs.YtjainkepgmdkiaaDoor.Tp

theorem r_a : stepR ⟨1, 0, 0, 0, 0, 0⟩ 2 10 5 = ((⟨2, 0, 0, 3, 0, 0⟩ : Tm), (0 : Int)) := by kernel_rfl
theorem r_b : stepR ⟨2, 0, 0, 3, 0, 0⟩ 2 10 5 = ((⟨3, 0, 0, 6, 0, 0⟩ : Tm), (0 : Int)) := by kernel_rfl
theorem r_u : unlR ⟨3, 0, 0, 6, 0, 0⟩ 359 = ((⟨0, 0, 0, 0, 0, 0⟩ : Tm), (18 : Int)) := by kernel_rfl
theorem r_c : unlR ⟨3, 0, 0, 6, 0, 0⟩ 365 = ((⟨1, 360, 0, 0, 0, 0⟩ : Tm), (0 : Int)) := by kernel_rfl
theorem r_d : passR ⟨2, 0, 0, 3, 0, 0⟩ 180 = ((⟨1, 180, 0, 0, 0, 0⟩ : Tm), (0 : Int)) := by kernel_rfl
theorem r_m : stepR ⟨1, 0, 0, 0, 0, 0⟩ 1 1 0 = ((⟨4, 0, 0, 0, 0, 0⟩ : Tm), (0 : Int)) := by kernel_rfl
theorem r_z : endR ⟨1, 0, 0, 0, 0, 0⟩ 4 = ((⟨4, 0, 0, 0, 0, 0⟩ : Tm), (0 : Int)) := by kernel_rfl
theorem r_x : endR ⟨1, 0, 0, 0, 0, 0⟩ 5 = ((⟨5, 0, 0, 0, 0, 0⟩ : Tm), (0 : Int)) := by kernel_rfl
theorem call_S (W : World) (_hG : Gl W) : Calls Tryd.prog 10 #[.int .i64 0] W fun e w' => e = .returned (.tuple #[.agg #[.int .i64 1, .int .i64 0, .int .i64 0, .int .i64 0, .int .i64 0, .int .i64 0], .int .i64 0]) ∧ Below W.heap.size W w' := by
  have h := new_yes 0 W (by omega) (by omega)
  exact h
theorem call_A (W : World) (hG : Gl W) : Calls Tryd.prog 11 #[.agg #[.int .i64 1, .int .i64 0, .int .i64 0, .int .i64 0, .int .i64 0, .int .i64 0], .agg #[.int .i64 2, .int .i64 10], .int .i64 5] W fun e w' => e = .returned (.tuple #[.agg #[.int .i64 2, .int .i64 0, .int .i64 0, .int .i64 3, .int .i64 0, .int .i64 0], .int .i64 0]) ∧ Below W.heap.size W w' := by
  have h := step_c ⟨1, 0, 0, 0, 0, 0⟩ 2 10 5 W hG
  rw [r_a] at h
  exact h
theorem call_B (W : World) (hG : Gl W) : Calls Tryd.prog 11 #[.agg #[.int .i64 2, .int .i64 0, .int .i64 0, .int .i64 3, .int .i64 0, .int .i64 0], .agg #[.int .i64 2, .int .i64 10], .int .i64 5] W fun e w' => e = .returned (.tuple #[.agg #[.int .i64 3, .int .i64 0, .int .i64 0, .int .i64 6, .int .i64 0, .int .i64 0], .int .i64 0]) ∧ Below W.heap.size W w' := by
  have h := step_c ⟨2, 0, 0, 3, 0, 0⟩ 2 10 5 W hG
  rw [r_b] at h
  exact h
theorem call_U (W : World) (hG : Gl W) : Calls Tryd.prog 15 #[.agg #[.int .i64 3, .int .i64 0, .int .i64 0, .int .i64 6, .int .i64 0, .int .i64 0], .int .i64 359] W fun e w' => e = .returned (.tuple #[.agg #[.int .i64 0, .int .i64 0, .int .i64 0, .int .i64 0, .int .i64 0, .int .i64 0], .int .i64 18]) ∧ Below W.heap.size W w' := by
  have h := unl_c ⟨3, 0, 0, 6, 0, 0⟩ 359 W hG
  rw [r_u] at h
  exact h
theorem call_C (W : World) (hG : Gl W) : Calls Tryd.prog 15 #[.agg #[.int .i64 3, .int .i64 0, .int .i64 0, .int .i64 6, .int .i64 0, .int .i64 0], .int .i64 365] W fun e w' => e = .returned (.tuple #[.agg #[.int .i64 1, .int .i64 360, .int .i64 0, .int .i64 0, .int .i64 0, .int .i64 0], .int .i64 0]) ∧ Below W.heap.size W w' := by
  have h := unl_c ⟨3, 0, 0, 6, 0, 0⟩ 365 W hG
  rw [r_c] at h
  exact h
theorem call_D (W : World) (hG : Gl W) : Calls Tryd.prog 12 #[.agg #[.int .i64 2, .int .i64 0, .int .i64 0, .int .i64 3, .int .i64 0, .int .i64 0], .int .i64 180] W fun e w' => e = .returned (.tuple #[.agg #[.int .i64 1, .int .i64 180, .int .i64 0, .int .i64 0, .int .i64 0, .int .i64 0], .int .i64 0]) ∧ Below W.heap.size W w' := by
  have h := pass_c ⟨2, 0, 0, 3, 0, 0⟩ 180 W hG
  rw [r_d] at h
  exact h
theorem call_M (W : World) (hG : Gl W) : Calls Tryd.prog 11 #[.agg #[.int .i64 1, .int .i64 0, .int .i64 0, .int .i64 0, .int .i64 0, .int .i64 0], .agg #[.int .i64 1, .int .i64 1], .int .i64 0] W fun e w' => e = .returned (.tuple #[.agg #[.int .i64 4, .int .i64 0, .int .i64 0, .int .i64 0, .int .i64 0, .int .i64 0], .int .i64 0]) ∧ Below W.heap.size W w' := by
  have h := step_c ⟨1, 0, 0, 0, 0, 0⟩ 1 1 0 W hG
  rw [r_m] at h
  exact h
theorem call_Z (W : World) (_hG : Gl W) : Calls Tryd.prog 17 #[.agg #[.int .i64 1, .int .i64 0, .int .i64 0, .int .i64 0, .int .i64 0, .int .i64 0]] W fun e w' => e = .returned (.tuple #[.agg #[.int .i64 4, .int .i64 0, .int .i64 0, .int .i64 0, .int .i64 0, .int .i64 0], .int .i64 0]) ∧ Below W.heap.size W w' := by
  have h := over_c 17 4 (.inl ⟨rfl, rfl⟩) ⟨1, 0, 0, 0, 0, 0⟩ W
  rw [r_z] at h
  exact h
theorem call_X (W : World) (_hG : Gl W) : Calls Tryd.prog 19 #[.agg #[.int .i64 1, .int .i64 0, .int .i64 0, .int .i64 0, .int .i64 0, .int .i64 0]] W fun e w' => e = .returned (.tuple #[.agg #[.int .i64 5, .int .i64 0, .int .i64 0, .int .i64 0, .int .i64 0, .int .i64 0], .int .i64 0]) ∧ Below W.heap.size W w' := by
  have h := over_c 19 5 (.inr ⟨rfl, rfl⟩) ⟨1, 0, 0, 0, 0, 0⟩ W
  rw [r_x] at h
  exact h
theorem call_tot (W : World) : Calls Tryd.prog 13 #[.agg #[.int .i64 2, .int .i64 0, .int .i64 0, .int .i64 3, .int .i64 0, .int .i64 0]] W fun e w' => e = .returned (.int .i64 3) ∧ Below W.heap.size W w' := total_walk ⟨2, 0, 0, 3, 0, 0⟩ W (by unfold Scores; decide)
theorem call_val (W : World) : Calls Tryd.prog 22 #[.agg #[.int .i64 1, .int .i64 0, .int .i64 0, .int .i64 0, .int .i64 0, .int .i64 0]] W fun e w' => e = .returned (.bool true) ∧ Below W.heap.size W w' := valid_at ⟨1, 0, 0, 0, 0, 0⟩ W
theorem call_not (W : World) : Calls Tryd.prog 22 #[.agg #[.int .i64 0, .int .i64 0, .int .i64 0, .int .i64 0, .int .i64 0, .int .i64 0]] W fun e w' => e = .returned (.bool false) ∧ Below W.heap.size W w' := valid_at ⟨0, 0, 0, 0, 0, 0⟩ W
theorem call_al (W : World) (hG : Gl W) : Calls Tryd.prog 23 #[.agg #[.int .i64 4, .int .i64 85]] W fun e w' => e = .returned (.bool true) ∧ Below W.heap.size W w' := alarm_known 4 85 (by omega) (by omega) W hG
theorem call_an (W : World) (hG : Gl W) : Calls Tryd.prog 23 #[.agg #[.int .i64 4, .int .i64 84]] W fun e w' => e = .returned (.bool false) ∧ Below W.heap.size W w' := alarm_known 4 84 (by omega) (by omega) W hG
theorem call_p1 (W : World) : Calls Tryd.prog 14 #[.int .i64 2, .int .i64 3] W fun e w' => e = .returned (.int .i64 18) ∧ W = w' := permits_c 2 3 W
theorem call_p2 (W : World) : Calls Tryd.prog 14 #[.int .i64 3, .int .i64 26] W fun e w' => e = .returned (.int .i64 0) ∧ W = w' := permits_c 3 26 W
theorem call_p3 (W : World) : Calls Tryd.prog 14 #[.int .i64 4, .int .i64 26] W fun e w' => e = .returned (.int .i64 19) ∧ W = w' := permits_c 4 26 W
set_option maxHeartbeats 16000000 in
set_option maxRecDepth 200000 in
theorem sanity_walk (w : World) (hG0 : Gl w) : Calls Tryd.prog 9 #[] w fun e w' => e = .returned (.bool true) ∧ Below w.heap.size w w' := by
  have b0 : Below w.heap.size w w := Below.refl _ _
  go_enter Tryd.func9, Tryd.ntmps9
  go_wp2_with fail
  refine (call_S _ hG0).mono ?_
  rintro e w1 ⟨rfl, hx⟩
  have hG := hG0.next hx
  have hb := below_next b0 hx
  clear hx b0 hG0
  go_wp2_with fail
  change Calls _ _ _ (w1.alloc (.cells #[.int .i64 1, .int .i64 0, .int .i64 0, .int .i64 0, .int .i64 0, .int .i64 0] 27)) _
  have hS := Blk.new w1 27 #[.int .i64 1, .int .i64 0, .int .i64 0, .int .i64 0, .int .i64 0, .int .i64 0]
  replace hG := hG.alloc (.cells #[.int .i64 1, .int .i64 0, .int .i64 0, .int .i64 0, .int .i64 0, .int .i64 0] 27)
  replace hb := hb.alloc hb.size (.cells #[.int .i64 1, .int .i64 0, .int .i64 0, .int .i64 0, .int .i64 0, .int .i64 0] 27)
  generalize w1.alloc (.cells #[.int .i64 1, .int .i64 0, .int .i64 0, .int .i64 0, .int .i64 0, .int .i64 0] 27) = V1 at hS hG hb ⊢
  refine (call_A _ hG).mono ?_
  rintro e w2 ⟨rfl, hx⟩
  replace hS := hS.below hx hS.lt
  replace hG := hG.next hx
  replace hb := below_next hb hx
  clear hx
  have lS := hS.lt
  go_wp2_with fail
  change Calls _ _ _ (w2.alloc (.cells #[.int .i64 2, .int .i64 0, .int .i64 0, .int .i64 3, .int .i64 0, .int .i64 0] 27)) _
  replace hS := hS.alloc (.cells #[.int .i64 2, .int .i64 0, .int .i64 0, .int .i64 3, .int .i64 0, .int .i64 0] 27)
  have hA := Blk.new w2 27 #[.int .i64 2, .int .i64 0, .int .i64 0, .int .i64 3, .int .i64 0, .int .i64 0]
  replace hG := hG.alloc (.cells #[.int .i64 2, .int .i64 0, .int .i64 0, .int .i64 3, .int .i64 0, .int .i64 0] 27)
  replace hb := hb.alloc hb.size (.cells #[.int .i64 2, .int .i64 0, .int .i64 0, .int .i64 3, .int .i64 0, .int .i64 0] 27)
  generalize w2.alloc (.cells #[.int .i64 2, .int .i64 0, .int .i64 0, .int .i64 3, .int .i64 0, .int .i64 0] 27) = V2 at hS hA hG hb ⊢
  refine (call_B _ hG).mono ?_
  rintro e w3 ⟨rfl, hx⟩
  replace hS := hS.below hx hS.lt
  replace hA := hA.below hx hA.lt
  replace hG := hG.next hx
  replace hb := below_next hb hx
  clear hx
  have lS := hS.lt
  have lA := hA.lt
  go_wp2_with fail
  change Calls _ _ _ (w3.alloc (.cells #[.int .i64 3, .int .i64 0, .int .i64 0, .int .i64 6, .int .i64 0, .int .i64 0] 27)) _
  replace hS := hS.alloc (.cells #[.int .i64 3, .int .i64 0, .int .i64 0, .int .i64 6, .int .i64 0, .int .i64 0] 27)
  replace hA := hA.alloc (.cells #[.int .i64 3, .int .i64 0, .int .i64 0, .int .i64 6, .int .i64 0, .int .i64 0] 27)
  have hB := Blk.new w3 27 #[.int .i64 3, .int .i64 0, .int .i64 0, .int .i64 6, .int .i64 0, .int .i64 0]
  replace hG := hG.alloc (.cells #[.int .i64 3, .int .i64 0, .int .i64 0, .int .i64 6, .int .i64 0, .int .i64 0] 27)
  replace hb := hb.alloc hb.size (.cells #[.int .i64 3, .int .i64 0, .int .i64 0, .int .i64 6, .int .i64 0, .int .i64 0] 27)
  generalize w3.alloc (.cells #[.int .i64 3, .int .i64 0, .int .i64 0, .int .i64 6, .int .i64 0, .int .i64 0] 27) = V3 at hS hA hB hG hb ⊢
  refine (call_U _ hG).mono ?_
  rintro e w4 ⟨rfl, hx⟩
  replace hS := hS.below hx hS.lt
  replace hA := hA.below hx hA.lt
  replace hB := hB.below hx hB.lt
  replace hG := hG.next hx
  replace hb := below_next hb hx
  clear hx
  have lS := hS.lt
  have lA := hA.lt
  have lB := hB.lt
  have kB0 : w4.cell? ⟨w3.heap.size, 0, none⟩ = some (.int .i64 3) := hB.cell 0
  have kB1 : w4.cell? ⟨w3.heap.size, 1, none⟩ = some (.int .i64 0) := hB.cell 1
  have kB2 : w4.cell? ⟨w3.heap.size, 2, none⟩ = some (.int .i64 0) := hB.cell 2
  have kB3 : w4.cell? ⟨w3.heap.size, 3, none⟩ = some (.int .i64 6) := hB.cell 3
  have kB4 : w4.cell? ⟨w3.heap.size, 4, none⟩ = some (.int .i64 0) := hB.cell 4
  have kB5 : w4.cell? ⟨w3.heap.size, 5, none⟩ = some (.int .i64 0) := hB.cell 5
  go_wp2_with fail
  change Calls _ _ _ (w4.alloc (.cells #[.int .i64 0, .int .i64 0, .int .i64 0, .int .i64 0, .int .i64 0, .int .i64 0] 27)) _
  clear kB0 kB1 kB2 kB3 kB4 kB5
  replace hS := hS.alloc (.cells #[.int .i64 0, .int .i64 0, .int .i64 0, .int .i64 0, .int .i64 0, .int .i64 0] 27)
  replace hA := hA.alloc (.cells #[.int .i64 0, .int .i64 0, .int .i64 0, .int .i64 0, .int .i64 0, .int .i64 0] 27)
  replace hB := hB.alloc (.cells #[.int .i64 0, .int .i64 0, .int .i64 0, .int .i64 0, .int .i64 0, .int .i64 0] 27)
  replace hG := hG.alloc (.cells #[.int .i64 0, .int .i64 0, .int .i64 0, .int .i64 0, .int .i64 0, .int .i64 0] 27)
  replace hb := hb.alloc hb.size (.cells #[.int .i64 0, .int .i64 0, .int .i64 0, .int .i64 0, .int .i64 0, .int .i64 0] 27)
  generalize w4.alloc (.cells #[.int .i64 0, .int .i64 0, .int .i64 0, .int .i64 0, .int .i64 0, .int .i64 0] 27) = V4 at hS hA hB hG hb ⊢
  refine (call_C _ hG).mono ?_
  rintro e w5 ⟨rfl, hx⟩
  replace hS := hS.below hx hS.lt
  replace hA := hA.below hx hA.lt
  replace hB := hB.below hx hB.lt
  replace hG := hG.next hx
  replace hb := below_next hb hx
  clear hx
  have lS := hS.lt
  have lA := hA.lt
  have lB := hB.lt
  have kA0 : w5.cell? ⟨w2.heap.size, 0, none⟩ = some (.int .i64 2) := hA.cell 0
  have kA1 : w5.cell? ⟨w2.heap.size, 1, none⟩ = some (.int .i64 0) := hA.cell 1
  have kA2 : w5.cell? ⟨w2.heap.size, 2, none⟩ = some (.int .i64 0) := hA.cell 2
  have kA3 : w5.cell? ⟨w2.heap.size, 3, none⟩ = some (.int .i64 3) := hA.cell 3
  have kA4 : w5.cell? ⟨w2.heap.size, 4, none⟩ = some (.int .i64 0) := hA.cell 4
  have kA5 : w5.cell? ⟨w2.heap.size, 5, none⟩ = some (.int .i64 0) := hA.cell 5
  go_wp2_with fail
  change Calls _ _ _ (w5.alloc (.cells #[.int .i64 1, .int .i64 360, .int .i64 0, .int .i64 0, .int .i64 0, .int .i64 0] 27)) _
  clear kA0 kA1 kA2 kA3 kA4 kA5
  replace hS := hS.alloc (.cells #[.int .i64 1, .int .i64 360, .int .i64 0, .int .i64 0, .int .i64 0, .int .i64 0] 27)
  replace hA := hA.alloc (.cells #[.int .i64 1, .int .i64 360, .int .i64 0, .int .i64 0, .int .i64 0, .int .i64 0] 27)
  replace hB := hB.alloc (.cells #[.int .i64 1, .int .i64 360, .int .i64 0, .int .i64 0, .int .i64 0, .int .i64 0] 27)
  have hC := Blk.new w5 27 #[.int .i64 1, .int .i64 360, .int .i64 0, .int .i64 0, .int .i64 0, .int .i64 0]
  replace hG := hG.alloc (.cells #[.int .i64 1, .int .i64 360, .int .i64 0, .int .i64 0, .int .i64 0, .int .i64 0] 27)
  replace hb := hb.alloc hb.size (.cells #[.int .i64 1, .int .i64 360, .int .i64 0, .int .i64 0, .int .i64 0, .int .i64 0] 27)
  generalize w5.alloc (.cells #[.int .i64 1, .int .i64 360, .int .i64 0, .int .i64 0, .int .i64 0, .int .i64 0] 27) = V5 at hS hA hB hC hG hb ⊢
  refine (call_D _ hG).mono ?_
  rintro e w6 ⟨rfl, hx⟩
  replace hS := hS.below hx hS.lt
  replace hA := hA.below hx hA.lt
  replace hB := hB.below hx hB.lt
  replace hC := hC.below hx hC.lt
  replace hG := hG.next hx
  replace hb := below_next hb hx
  clear hx
  have lS := hS.lt
  have lA := hA.lt
  have lB := hB.lt
  have lC := hC.lt
  have kS0 : w6.cell? ⟨w1.heap.size, 0, none⟩ = some (.int .i64 1) := hS.cell 0
  have kS1 : w6.cell? ⟨w1.heap.size, 1, none⟩ = some (.int .i64 0) := hS.cell 1
  have kS2 : w6.cell? ⟨w1.heap.size, 2, none⟩ = some (.int .i64 0) := hS.cell 2
  have kS3 : w6.cell? ⟨w1.heap.size, 3, none⟩ = some (.int .i64 0) := hS.cell 3
  have kS4 : w6.cell? ⟨w1.heap.size, 4, none⟩ = some (.int .i64 0) := hS.cell 4
  have kS5 : w6.cell? ⟨w1.heap.size, 5, none⟩ = some (.int .i64 0) := hS.cell 5
  go_wp2_with fail
  change Calls _ _ _ (w6.alloc (.cells #[.int .i64 1, .int .i64 180, .int .i64 0, .int .i64 0, .int .i64 0, .int .i64 0] 27)) _
  clear kS0 kS1 kS2 kS3 kS4 kS5
  replace hS := hS.alloc (.cells #[.int .i64 1, .int .i64 180, .int .i64 0, .int .i64 0, .int .i64 0, .int .i64 0] 27)
  replace hA := hA.alloc (.cells #[.int .i64 1, .int .i64 180, .int .i64 0, .int .i64 0, .int .i64 0, .int .i64 0] 27)
  replace hB := hB.alloc (.cells #[.int .i64 1, .int .i64 180, .int .i64 0, .int .i64 0, .int .i64 0, .int .i64 0] 27)
  replace hC := hC.alloc (.cells #[.int .i64 1, .int .i64 180, .int .i64 0, .int .i64 0, .int .i64 0, .int .i64 0] 27)
  have hD := Blk.new w6 27 #[.int .i64 1, .int .i64 180, .int .i64 0, .int .i64 0, .int .i64 0, .int .i64 0]
  replace hG := hG.alloc (.cells #[.int .i64 1, .int .i64 180, .int .i64 0, .int .i64 0, .int .i64 0, .int .i64 0] 27)
  replace hb := hb.alloc hb.size (.cells #[.int .i64 1, .int .i64 180, .int .i64 0, .int .i64 0, .int .i64 0, .int .i64 0] 27)
  generalize w6.alloc (.cells #[.int .i64 1, .int .i64 180, .int .i64 0, .int .i64 0, .int .i64 0, .int .i64 0] 27) = V6 at hS hA hB hC hD hG hb ⊢
  refine (call_M _ hG).mono ?_
  rintro e w7 ⟨rfl, hx⟩
  replace hS := hS.below hx hS.lt
  replace hA := hA.below hx hA.lt
  replace hB := hB.below hx hB.lt
  replace hC := hC.below hx hC.lt
  replace hD := hD.below hx hD.lt
  replace hG := hG.next hx
  replace hb := below_next hb hx
  clear hx
  have lS := hS.lt
  have lA := hA.lt
  have lB := hB.lt
  have lC := hC.lt
  have lD := hD.lt
  have kS0 : w7.cell? ⟨w1.heap.size, 0, none⟩ = some (.int .i64 1) := hS.cell 0
  have kS1 : w7.cell? ⟨w1.heap.size, 1, none⟩ = some (.int .i64 0) := hS.cell 1
  have kS2 : w7.cell? ⟨w1.heap.size, 2, none⟩ = some (.int .i64 0) := hS.cell 2
  have kS3 : w7.cell? ⟨w1.heap.size, 3, none⟩ = some (.int .i64 0) := hS.cell 3
  have kS4 : w7.cell? ⟨w1.heap.size, 4, none⟩ = some (.int .i64 0) := hS.cell 4
  have kS5 : w7.cell? ⟨w1.heap.size, 5, none⟩ = some (.int .i64 0) := hS.cell 5
  go_wp2_with fail
  change Calls _ _ _ (w7.alloc (.cells #[.int .i64 4, .int .i64 0, .int .i64 0, .int .i64 0, .int .i64 0, .int .i64 0] 27)) _
  clear kS0 kS1 kS2 kS3 kS4 kS5
  replace hS := hS.alloc (.cells #[.int .i64 4, .int .i64 0, .int .i64 0, .int .i64 0, .int .i64 0, .int .i64 0] 27)
  replace hA := hA.alloc (.cells #[.int .i64 4, .int .i64 0, .int .i64 0, .int .i64 0, .int .i64 0, .int .i64 0] 27)
  replace hB := hB.alloc (.cells #[.int .i64 4, .int .i64 0, .int .i64 0, .int .i64 0, .int .i64 0, .int .i64 0] 27)
  replace hC := hC.alloc (.cells #[.int .i64 4, .int .i64 0, .int .i64 0, .int .i64 0, .int .i64 0, .int .i64 0] 27)
  replace hD := hD.alloc (.cells #[.int .i64 4, .int .i64 0, .int .i64 0, .int .i64 0, .int .i64 0, .int .i64 0] 27)
  have hM := Blk.new w7 27 #[.int .i64 4, .int .i64 0, .int .i64 0, .int .i64 0, .int .i64 0, .int .i64 0]
  replace hG := hG.alloc (.cells #[.int .i64 4, .int .i64 0, .int .i64 0, .int .i64 0, .int .i64 0, .int .i64 0] 27)
  replace hb := hb.alloc hb.size (.cells #[.int .i64 4, .int .i64 0, .int .i64 0, .int .i64 0, .int .i64 0, .int .i64 0] 27)
  generalize w7.alloc (.cells #[.int .i64 4, .int .i64 0, .int .i64 0, .int .i64 0, .int .i64 0, .int .i64 0] 27) = V7 at hS hA hB hC hD hM hG hb ⊢
  refine (call_Z _ hG).mono ?_
  rintro e w8 ⟨rfl, hx⟩
  replace hS := hS.below hx hS.lt
  replace hA := hA.below hx hA.lt
  replace hB := hB.below hx hB.lt
  replace hC := hC.below hx hC.lt
  replace hD := hD.below hx hD.lt
  replace hM := hM.below hx hM.lt
  replace hG := hG.next hx
  replace hb := below_next hb hx
  clear hx
  have lS := hS.lt
  have lA := hA.lt
  have lB := hB.lt
  have lC := hC.lt
  have lD := hD.lt
  have lM := hM.lt
  have kS0 : w8.cell? ⟨w1.heap.size, 0, none⟩ = some (.int .i64 1) := hS.cell 0
  have kS1 : w8.cell? ⟨w1.heap.size, 1, none⟩ = some (.int .i64 0) := hS.cell 1
  have kS2 : w8.cell? ⟨w1.heap.size, 2, none⟩ = some (.int .i64 0) := hS.cell 2
  have kS3 : w8.cell? ⟨w1.heap.size, 3, none⟩ = some (.int .i64 0) := hS.cell 3
  have kS4 : w8.cell? ⟨w1.heap.size, 4, none⟩ = some (.int .i64 0) := hS.cell 4
  have kS5 : w8.cell? ⟨w1.heap.size, 5, none⟩ = some (.int .i64 0) := hS.cell 5
  go_wp2_with fail
  change Calls _ _ _ (w8.alloc (.cells #[.int .i64 4, .int .i64 0, .int .i64 0, .int .i64 0, .int .i64 0, .int .i64 0] 27)) _
  clear kS0 kS1 kS2 kS3 kS4 kS5
  replace hS := hS.alloc (.cells #[.int .i64 4, .int .i64 0, .int .i64 0, .int .i64 0, .int .i64 0, .int .i64 0] 27)
  replace hA := hA.alloc (.cells #[.int .i64 4, .int .i64 0, .int .i64 0, .int .i64 0, .int .i64 0, .int .i64 0] 27)
  replace hB := hB.alloc (.cells #[.int .i64 4, .int .i64 0, .int .i64 0, .int .i64 0, .int .i64 0, .int .i64 0] 27)
  replace hC := hC.alloc (.cells #[.int .i64 4, .int .i64 0, .int .i64 0, .int .i64 0, .int .i64 0, .int .i64 0] 27)
  replace hD := hD.alloc (.cells #[.int .i64 4, .int .i64 0, .int .i64 0, .int .i64 0, .int .i64 0, .int .i64 0] 27)
  replace hM := hM.alloc (.cells #[.int .i64 4, .int .i64 0, .int .i64 0, .int .i64 0, .int .i64 0, .int .i64 0] 27)
  have hZ := Blk.new w8 27 #[.int .i64 4, .int .i64 0, .int .i64 0, .int .i64 0, .int .i64 0, .int .i64 0]
  replace hG := hG.alloc (.cells #[.int .i64 4, .int .i64 0, .int .i64 0, .int .i64 0, .int .i64 0, .int .i64 0] 27)
  replace hb := hb.alloc hb.size (.cells #[.int .i64 4, .int .i64 0, .int .i64 0, .int .i64 0, .int .i64 0, .int .i64 0] 27)
  generalize w8.alloc (.cells #[.int .i64 4, .int .i64 0, .int .i64 0, .int .i64 0, .int .i64 0, .int .i64 0] 27) = V8 at hS hA hB hC hD hM hZ hG hb ⊢
  refine (call_X _ hG).mono ?_
  rintro e w9 ⟨rfl, hx⟩
  replace hS := hS.below hx hS.lt
  replace hA := hA.below hx hA.lt
  replace hB := hB.below hx hB.lt
  replace hC := hC.below hx hC.lt
  replace hD := hD.below hx hD.lt
  replace hM := hM.below hx hM.lt
  replace hZ := hZ.below hx hZ.lt
  replace hG := hG.next hx
  replace hb := below_next hb hx
  clear hx
  have lS := hS.lt
  have lA := hA.lt
  have lB := hB.lt
  have lC := hC.lt
  have lD := hD.lt
  have lM := hM.lt
  have lZ := hZ.lt
  have kS0 : w9.cell? ⟨w1.heap.size, 0, none⟩ = some (.int .i64 1) := hS.cell 0
  have kA0 : w9.cell? ⟨w2.heap.size, 0, none⟩ = some (.int .i64 2) := hA.cell 0
  have kA1 : w9.cell? ⟨w2.heap.size, 1, none⟩ = some (.int .i64 0) := hA.cell 1
  have kA2 : w9.cell? ⟨w2.heap.size, 2, none⟩ = some (.int .i64 0) := hA.cell 2
  have kA3 : w9.cell? ⟨w2.heap.size, 3, none⟩ = some (.int .i64 3) := hA.cell 3
  have kA4 : w9.cell? ⟨w2.heap.size, 4, none⟩ = some (.int .i64 0) := hA.cell 4
  have kA5 : w9.cell? ⟨w2.heap.size, 5, none⟩ = some (.int .i64 0) := hA.cell 5
  go_wp2_with fail
  change Calls _ _ _ (w9.alloc (.cells #[.int .i64 5, .int .i64 0, .int .i64 0, .int .i64 0, .int .i64 0, .int .i64 0] 27)) _
  clear kS0 kA0 kA1 kA2 kA3 kA4 kA5
  replace hS := hS.alloc (.cells #[.int .i64 5, .int .i64 0, .int .i64 0, .int .i64 0, .int .i64 0, .int .i64 0] 27)
  replace hA := hA.alloc (.cells #[.int .i64 5, .int .i64 0, .int .i64 0, .int .i64 0, .int .i64 0, .int .i64 0] 27)
  replace hB := hB.alloc (.cells #[.int .i64 5, .int .i64 0, .int .i64 0, .int .i64 0, .int .i64 0, .int .i64 0] 27)
  replace hC := hC.alloc (.cells #[.int .i64 5, .int .i64 0, .int .i64 0, .int .i64 0, .int .i64 0, .int .i64 0] 27)
  replace hD := hD.alloc (.cells #[.int .i64 5, .int .i64 0, .int .i64 0, .int .i64 0, .int .i64 0, .int .i64 0] 27)
  replace hM := hM.alloc (.cells #[.int .i64 5, .int .i64 0, .int .i64 0, .int .i64 0, .int .i64 0, .int .i64 0] 27)
  replace hZ := hZ.alloc (.cells #[.int .i64 5, .int .i64 0, .int .i64 0, .int .i64 0, .int .i64 0, .int .i64 0] 27)
  have hX := Blk.new w9 27 #[.int .i64 5, .int .i64 0, .int .i64 0, .int .i64 0, .int .i64 0, .int .i64 0]
  replace hG := hG.alloc (.cells #[.int .i64 5, .int .i64 0, .int .i64 0, .int .i64 0, .int .i64 0, .int .i64 0] 27)
  replace hb := hb.alloc hb.size (.cells #[.int .i64 5, .int .i64 0, .int .i64 0, .int .i64 0, .int .i64 0, .int .i64 0] 27)
  generalize w9.alloc (.cells #[.int .i64 5, .int .i64 0, .int .i64 0, .int .i64 0, .int .i64 0, .int .i64 0] 27) = V9 at hS hA hB hC hD hM hZ hX hG hb ⊢
  refine (call_tot _).mono ?_
  rintro e w10 ⟨rfl, hx⟩
  replace hS := hS.below hx hS.lt
  replace hA := hA.below hx hA.lt
  replace hB := hB.below hx hB.lt
  replace hC := hC.below hx hC.lt
  replace hD := hD.below hx hD.lt
  replace hM := hM.below hx hM.lt
  replace hZ := hZ.below hx hZ.lt
  replace hX := hX.below hx hX.lt
  replace hG := hG.next hx
  replace hb := below_next hb hx
  clear hx
  have kB0 : w10.cell? ⟨w3.heap.size, 0, none⟩ = some (.int .i64 3) := hB.cell 0
  have kC0 : w10.cell? ⟨w5.heap.size, 0, none⟩ = some (.int .i64 1) := hC.cell 0
  have kD0 : w10.cell? ⟨w6.heap.size, 0, none⟩ = some (.int .i64 1) := hD.cell 0
  have kM0 : w10.cell? ⟨w7.heap.size, 0, none⟩ = some (.int .i64 4) := hM.cell 0
  have kZ0 : w10.cell? ⟨w8.heap.size, 0, none⟩ = some (.int .i64 4) := hZ.cell 0
  have kX0 : w10.cell? ⟨w9.heap.size, 0, none⟩ = some (.int .i64 5) := hX.cell 0
  have kD1 : w10.cell? ⟨w6.heap.size, 1, none⟩ = some (.int .i64 180) := hD.cell 1
  have kS0 : w10.cell? ⟨w1.heap.size, 0, none⟩ = some (.int .i64 1) := hS.cell 0
  have kS1 : w10.cell? ⟨w1.heap.size, 1, none⟩ = some (.int .i64 0) := hS.cell 1
  have kS2 : w10.cell? ⟨w1.heap.size, 2, none⟩ = some (.int .i64 0) := hS.cell 2
  have kS3 : w10.cell? ⟨w1.heap.size, 3, none⟩ = some (.int .i64 0) := hS.cell 3
  have kS4 : w10.cell? ⟨w1.heap.size, 4, none⟩ = some (.int .i64 0) := hS.cell 4
  have kS5 : w10.cell? ⟨w1.heap.size, 5, none⟩ = some (.int .i64 0) := hS.cell 5
  go_wp2_with fail
  refine (call_val _).mono ?_
  rintro e w11 ⟨rfl, hx⟩
  replace hG := hG.next hx
  replace hb := below_next hb hx
  clear hx kB0 kC0 kD0 kM0 kZ0 kX0 kD1 kS0 kS1 kS2 kS3 kS4 kS5
  go_wp2_with fail
  refine (call_not _).mono ?_
  rintro e w12 ⟨rfl, hx⟩
  replace hG := hG.next hx
  replace hb := below_next hb hx
  clear hx
  go_wp2_with fail
  refine (call_al _ hG).mono ?_
  rintro e w13 ⟨rfl, hx⟩
  replace hG := hG.next hx
  replace hb := below_next hb hx
  clear hx
  go_wp2_with fail
  refine (call_an _ hG).mono ?_
  rintro e w14 ⟨rfl, hx⟩
  replace hG := hG.next hx
  replace hb := below_next hb hx
  clear hx
  go_wp2_with fail
  refine (call_p1 _).mono ?_
  rintro e w15 ⟨rfl, rfl⟩
  go_wp2_with fail
  refine (call_p2 _).mono ?_
  rintro e w15 ⟨rfl, rfl⟩
  go_wp2_with fail
  refine (call_p3 _).mono ?_
  rintro e w15 ⟨rfl, rfl⟩
  go_wp2
  go_ret
  exact ⟨rfl, hb⟩
end Go.Proofs.YtjainkepgmdkiaaDoor.Ts
