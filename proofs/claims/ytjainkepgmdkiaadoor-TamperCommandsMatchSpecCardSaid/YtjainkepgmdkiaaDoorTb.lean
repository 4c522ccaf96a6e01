/-
  Validity, on both sides; the new state; the totals of the specification.
-/
import Derived.Test.YtjainkepgmdkiaaDoorTa
namespace Go.Proofs.YtjainkepgmdkiaaDoor.Tb
open Go.RowKit Go.Proofs.YtjainkepgmdkiaaDoor.B Go.Proofs.YtjainkepgmdkiaaDoor.Ta

/-- The mode and the time are valid. -/
def vld0 (s : Tm) : Bool := decide (1 ≤ s.m) && decide (s.m ≤ 5) && (decide (0 ≤ s.t) && decide (s.t ≤ 1099511627776))
/-- .. and the first k scores. -/
def okk (s : Tm) : Nat → Bool
  | 0 => vld0 s
  | k + 1 => okk s k && decide (0 ≤ s.sc k) && decide (s.sc k ≤ 100)
theorem okk_all (s : Tm) : okk s 4 = true ↔ Vld s := by
  simp [okk, vld0, Vld, Scores, Tm.sc]
  constructor
  · intro h; omega
  · intro h; omega
set_option maxHeartbeats 2000000 in
theorem valid_at (s : Tm) (w : World) : Calls Tryd.prog 22 #[.agg s.cells] w fun e w' => e = .returned (.bool (okk s 4)) ∧ Below w.heap.size w w' := by
  have hcase : (s.m < 1 ∧ vld0 s = false) ∨ ((1 ≤ s.m ∧ 5 < s.m) ∧ vld0 s = false) ∨ (((1 ≤ s.m ∧ s.m ≤ 5) ∧ (s.t < 0 ∨ 1099511627776 < s.t)) ∧ vld0 s = false) ∨ (((1 ≤ s.m ∧ s.m ≤ 5) ∧ 0 ≤ s.t ∧ s.t ≤ 1099511627776) ∧ vld0 s = true) := by
    simp only [vld0, Bool.and_eq_true, Bool.and_eq_false_iff, decide_eq_true_eq, decide_eq_false_iff_not]
    omega
  unfold Tm.cells
  rcases hcase with ⟨h1, hb⟩ | ⟨⟨h1, h2⟩, hb⟩ | ⟨⟨⟨h1, h2⟩, h3⟩, hb⟩ | ⟨⟨⟨h1, h2⟩, h3, h4⟩, hb⟩
  case' inl =>
    have d1 : decide (1 ≤ s.m) = false := decide_eq_false (by omega)
    have HB := Lib.hid hb
    clear hb
    go_enter Tryd.func22, Tryd.ntmps22
    go_wp2
  case' inr.inl =>
    have d2 : decide (s.m ≤ 5) = false := decide_eq_false (by omega)
    have HB := Lib.hid hb
    clear hb
    go_enter Tryd.func22, Tryd.ntmps22
    go_wp2
  case' inr.inr.inl =>
    have HB := Lib.hid hb
    clear hb
    go_enter Tryd.func22, Tryd.ntmps22
    go_wp2_with (first | (go_at_call 24; ((with_reducible refine (time_no _ _ h3).mono ?_); rintro e w1 ⟨rfl, rfl⟩)))
  case' inr.inr.inr =>
    have HB := Lib.hid hb
    clear hb
    go_enter Tryd.func22, Tryd.ntmps22
    go_wp2_with (first | (go_at_call 24; ((with_reducible refine (time_yes _ _ h3 h4).mono ?_); rintro e w1 ⟨rfl, rfl⟩)))
  all_goals
    go_loop [3, 5, 21] (fun v3 v5 v21 => ∃ k : Nat, k ≤ 4 ∧ v21 = .int .i64 (k : Int) ∧ v3 = .bool (okk s k)) (fun _ _ v21 => 4 - (intOf v21).toNat)
    case atStart => exact ⟨0, by omega, rfl, by rw [show okk s 0 = _ from HB.out]⟩
    case round =>
      obtain ⟨k, hk, rfl, rfl⟩ := hrel
      by_cases hlt : k < 4
      · have zk : (k : Int) < 4 := by omega
        have hix := index_sc s k hlt
        have h3 : okk s (k + 1) = (okk s k && decide (0 ≤ s.sc k) && decide (s.sc k ≤ 100)) := rfl
        have H3 := Lib.hid h3
        clear h3
        generalize s.sc k = x at hix H3
        cases hb : okk s k
        · go_wp2
          go_round
          case rel => exact ⟨k + 1, by omega, by go_num, by rw [H3.out, hb]; rfl⟩
          case measure => simp [intOf]; omega
        · by_cases hx0 : 0 ≤ x
          · by_cases hx1 : x ≤ 100
            · go_wp2
              go_round
              case rel => exact ⟨k + 1, by omega, by go_num, by rw [H3.out, hb, decide_eq_true hx0, decide_eq_true hx1]; rfl⟩
              case measure => simp [intOf]; omega
            · have e1 : decide (x ≤ 100) = false := decide_eq_false hx1
              go_wp2
              go_round
              case rel => exact ⟨k + 1, by omega, by go_num, by rw [H3.out, hb, e1, Bool.and_false]⟩
              case measure => simp [intOf]; omega
          · have e0 : decide (0 ≤ x) = false := decide_eq_false hx0
            go_wp2
            go_round
            case rel => exact ⟨k + 1, by omega, by go_num, by rw [H3.out, hb, e0]; rfl⟩
            case measure => simp [intOf]; omega
      · obtain rfl : k = 4 := by omega
        clear hlt hk
        go_wp2
        go_ret
        exact ⟨rfl, (Below.refl _ _).alloc (Nat.le_refl _) _⟩
theorem valid_yes (s : Tm) (w : World) (h : Vld s) : Calls Tryd.prog 22 #[.agg s.cells] w fun e w' => e = .returned (.bool true) ∧ Below w.heap.size w w' := by
  have h1 := valid_at s w
  rwa [(okk_all s).2 h] at h1
theorem valid_no (s : Tm) (w : World) (h : ¬ Vld s) : Calls Tryd.prog 22 #[.agg s.cells] w fun e w' => e = .returned (.bool false) ∧ Below w.heap.size w w' := by
  have h1 := valid_at s w
  rwa [Bool.eq_false_iff.2 (fun e => h ((okk_all s).1 e))] at h1
end Go.Proofs.YtjainkepgmdkiaaDoor.Tb
