/-
  What is permitted in a mode is permitted in every smaller one: the law's walk.
-/
import Derived.Test.YtjainkepgmdkiaaDoorUa
namespace Go.Proofs.YtjainkepgmdkiaaDoor.Ub
open Go.RowKit Go.Proofs.YtjainkepgmdkiaaDoor.B Go.Proofs.YtjainkepgmdkiaaDoor.Ta Go.Proofs.YtjainkepgmdkiaaDoor.Tc Go.Proofs.YtjainkepgmdkiaaDoor.Tp Go.Proofs.YtjainkepgmdkiaaDoor.Ts Go.Proofs.YtjainkepgmdkiaaDoor.Ua
theorem safe_still (c : Int) (h : sf c = true) : mv c = false := by
  have h1 : c = 20 ∨ 22 ≤ c := by simpa [sf] using h
  unfold mv
  simp
  omega
/-- Permitted in the next mode, permitted in this one. -/
theorem less_strict (m c : Int) (h1 : 1 ≤ m) (h4 : m ≤ 4) (hc : 1 ≤ c ∧ c ≤ 27) : (permE (m + 1) c ≠ 0 ∨ permE m c = 0) ∧ (m + 1 < 4 ∨ permE (m + 1) c = 19) := by
  have hm : m = 1 ∨ m = 2 ∨ m = 3 ∨ m = 4 := by omega
  rcases hm with rfl | rfl | rfl | rfl
  · refine ⟨.inr ?_, .inl (by omega)⟩
    unfold permE
    rw [if_neg (by omega), if_neg (by omega), if_neg (fun h => absurd h.1 (by omega)), if_neg (fun h => absurd h.1 (by omega))]
  · refine ⟨?_, .inl (by omega)⟩
    cases hs : sf c
    · left
      unfold permE
      rw [if_neg (by omega), if_neg (by omega), if_neg (fun h => absurd h.1 (by omega)), if_pos ⟨by omega, hs⟩]
      decide
    · right
      unfold permE
      rw [if_neg (by omega), if_neg (by omega), if_neg (fun h => by rw [safe_still c hs] at h; exact absurd h.2 (by decide)), if_neg (fun h => absurd h.1 (by omega))]
  · refine ⟨.inl ?_, .inr ?_⟩
    · unfold permE; rw [if_neg (by omega), if_pos (by omega)]; decide
    · unfold permE; rw [if_neg (by omega), if_pos (by omega)]
  · refine ⟨.inl ?_, .inr ?_⟩
    · unfold permE; rw [if_neg (by omega), if_pos (by omega)]; decide
    · unfold permE; rw [if_neg (by omega), if_pos (by omega)]
set_option maxHeartbeats 4000000 in
set_option maxRecDepth 100000 in
theorem modes_at (mode m c E1 E2 : Int) (w : World) (hG : Gl w) (hm0 : 0 ≤ mode) (hm1 : mode ≤ 255) (hm : 1 + mode % 4 = m) (p1 : Says 14 m c E1) (p2 : Says 14 (m + 1) c E2)
    (hcase : ((c < 1 ∨ 27 < c) ∧ E1 = 1 ∧ E2 = 1) ∨ ((1 ≤ c ∧ c ≤ 27) ∧ (E2 ≠ 0 ∨ E1 = 0) ∧ (m + 1 < 4 ∨ E2 = 19))) : LawIs 4 #[.int .u8 mode, .int .i64 c] w := by
  have P1 := Lib.hid p1
  have P2 := Lib.hid p2
  have l1 : 1 ≤ m := by omega
  have l4 : m ≤ 4 := by omega
  have hs := sanity_walk w hG
  clear p1 p2
  go_enter Tryd.func4, Tryd.ntmps4
  go_wp2_with fail
  refine hs.mono ?_
  rintro e w1 ⟨rfl, hb⟩
  clear hs hG
  rcases hcase with ⟨hc, rfl, rfl⟩ | ⟨⟨c1, c2⟩, hA, hB⟩
  · by_cases hc1 : c < 1
    · clear hc
      go_wp2_with (first | (go_at_call 14; ((with_reducible refine (P1.out _).mono ?_); rintro e w3 ⟨rfl, rfl⟩)) | (go_at_call 14; ((with_reducible refine (P2.out _).mono ?_); rintro e w3 ⟨rfl, rfl⟩)))
      go_ret
      exact ⟨rfl, hb⟩
    · have d1 : decide (c < 1) = false := decide_eq_false hc1
      have hc2 : 27 < c := by omega
      clear hc
      go_wp2_with (first | (go_at_call 14; ((with_reducible refine (P1.out _).mono ?_); rintro e w3 ⟨rfl, rfl⟩)) | (go_at_call 14; ((with_reducible refine (P2.out _).mono ?_); rintro e w3 ⟨rfl, rfl⟩)))
      go_ret
      exact ⟨rfl, hb⟩
  · have d1 : decide (c < 1) = false := decide_eq_false (by omega)
    have d2 : decide (27 < c) = false := decide_eq_false (by omega)
    by_cases h2 : E2 = 0
    · have h1 : E1 = 0 := by omega
      have h3 : m + 1 < 4 := by omega
      clear hA hB
      subst h1 h2
      go_wp2_with (first | (go_at_call 14; ((with_reducible refine (P1.out _).mono ?_); rintro e w3 ⟨rfl, rfl⟩)) | (go_at_call 14; ((with_reducible refine (P2.out _).mono ?_); rintro e w3 ⟨rfl, rfl⟩)))
      go_ret
      exact ⟨rfl, hb⟩
    · have z2 : (E2 != 0) = true := by simp [h2]
      by_cases h3 : m + 1 < 4
      · clear hA hB h2
        go_wp2_with (first | (go_at_call 14; ((with_reducible refine (P1.out _).mono ?_); rintro e w3 ⟨rfl, rfl⟩)) | (go_at_call 14; ((with_reducible refine (P2.out _).mono ?_); rintro e w3 ⟨rfl, rfl⟩)))
        go_ret
        exact ⟨rfl, hb⟩
      · have h5 : E2 = 19 := by omega
        have d3 : decide (m + 1 < 4) = false := decide_eq_false h3
        clear hA hB h2 z2 h3
        subst h5
        go_wp2_with (first | (go_at_call 14; ((with_reducible refine (P1.out _).mono ?_); rintro e w3 ⟨rfl, rfl⟩)) | (go_at_call 14; ((with_reducible refine (P2.out _).mono ?_); rintro e w3 ⟨rfl, rfl⟩)))
        go_ret
        exact ⟨rfl, hb⟩
theorem modes_walk (mode c : Int) (w : World) (hG : Gl w) (h : (Lit.int .u8 mode).wf = true) : LawIs 4 #[.int .u8 mode, .int .i64 c] w := by
  have hb : 0 ≤ mode ∧ mode ≤ 255 := by
    simp only [Lit.wf, IntKind.min, IntKind.max, IntKind.signed, IntKind.bits] at h
    simp at h
    omega
  refine modes_at mode (1 + mode % 4) c _ _ w hG hb.1 hb.2 rfl (permits_c _ _) (permits_c _ _) ?_
  by_cases hc : 1 ≤ c ∧ c ≤ 27
  · right
    exact ⟨hc, less_strict (1 + mode % 4) c (by omega) (by omega) hc⟩
  · left
    refine ⟨by omega, ?_, ?_⟩
    · unfold permE; rw [if_pos (by omega)]
    · unfold permE; rw [if_pos (by omega)]
end Go.Proofs.YtjainkepgmdkiaaDoor.Ub
