/-
  The small functions of the tamper state machine: times, readings, totals, validity: plain words, and their walks.
-/
import Derived.Test.YtjainkepgmdkiaaDoorProg
import Derived.Test.YtjainkepgmdkiaaDoorB
import Derived.Test.YtjainkepgmdkiaaDoorE
import Derived.WalkKit
import Derived.WalkSpells
import Derived.WalkLawsBesides
import Derived.KernelRfl
import Derived.Lib.Hide
import Derived.Deep.QuietTactic
import Derived.BigQuiet
namespace Go.Proofs.YtjainkepgmdkiaaDoor.Ta
open Go.RowKit Go.Proofs.YtjainkepgmdkiaaDoor.B

/-- A state: the mode, the time, the four scores. -/
structure Tm where
  m : Int
  t : Int
  a : Int
  b : Int
  c : Int
  d : Int
def Tm.cells (s : Tm) : Array Value := #[.int .i64 s.m, .int .i64 s.t, .int .i64 s.a, .int .i64 s.b, .int .i64 s.c, .int .i64 s.d]
def Tm.sc (s : Tm) (k : Nat) : Int := [s.a, s.b, s.c, s.d].getD k 0
def nil0 : Tm := ⟨0, 0, 0, 0, 0, 0⟩
def MAX : Int := 1099511627776
/-- The scores are scores. -/
def Scores (s : Tm) : Prop := (0 ≤ s.a ∧ s.a ≤ 100) ∧ (0 ≤ s.b ∧ s.b ≤ 100) ∧ (0 ≤ s.c ∧ s.c ≤ 100) ∧ (0 ≤ s.d ∧ s.d ≤ 100)
def Vld (s : Tm) : Prop := (1 ≤ s.m ∧ s.m ≤ 5) ∧ (0 ≤ s.t ∧ s.t ≤ 1099511627776) ∧ Scores s
def tot (s : Tm) : Int := s.a + s.b + s.c + s.d

theorem time_yes (n : Int) (w : World) (h0 : 0 ≤ n) (h1 : n ≤ 1099511627776) : Calls Tryd.prog 24 #[.int .i64 n] w fun e w' => e = .returned (.bool true) ∧ w = w' := by
  go_enter Tryd.func24, Tryd.ntmps24
  go_wp2
  go_ret
  exact ⟨rfl, rfl⟩
theorem time_no (n : Int) (w : World) (h : n < 0 ∨ 1099511627776 < n) : Calls Tryd.prog 24 #[.int .i64 n] w fun e w' => e = .returned (.bool false) ∧ w = w' := by
  rcases h with h | h
  · go_enter Tryd.func24, Tryd.ntmps24
    go_wp2
    go_ret
    exact ⟨rfl, rfl⟩
  · have h0 : 0 ≤ n := by omega
    have hd : decide (n ≤ 1099511627776) = false := decide_eq_false (by omega)
    go_enter Tryd.func24, Tryd.ntmps24
    go_wp2
    go_ret
    exact ⟨rfl, rfl⟩
theorem known_yes (s l : Int) (w : World) (h0 : 1 ≤ s) (h1 : s ≤ 4) : Calls Tryd.prog 35 #[.agg #[.int .i64 s, .int .i64 l]] w fun e w' => e = .returned (.bool true) ∧ Below w.heap.size w w' := by
  go_enter Tryd.func35, Tryd.ntmps35
  go_wp2
  go_ret
  exact ⟨rfl, (Below.refl _ _).alloc (Nat.le_refl _) _⟩
theorem known_no (s l : Int) (w : World) (h : s < 1 ∨ 4 < s) : Calls Tryd.prog 35 #[.agg #[.int .i64 s, .int .i64 l]] w fun e w' => e = .returned (.bool false) ∧ Below w.heap.size w w' := by
  rcases h with h | h
  · go_enter Tryd.func35, Tryd.ntmps35
    go_wp2
    go_ret
    exact ⟨rfl, (Below.refl _ _).alloc (Nat.le_refl _) _⟩
  · have h0 : 1 ≤ s := by omega
    have hd : decide (s ≤ 4) = false := decide_eq_false (by omega)
    go_enter Tryd.func35, Tryd.ntmps35
    go_wp2
    go_ret
    exact ⟨rfl, (Below.refl _ _).alloc (Nat.le_refl _) _⟩
theorem sc_bound {s : Tm} (h : Scores s) (k : Nat) : 0 ≤ s.sc k ∧ s.sc k ≤ 100 := by
  obtain ⟨h0, h1, h2, h3⟩ := h
  match k with
  | 0 => exact h0
  | 1 => exact h1
  | 2 => exact h2
  | 3 => exact h3
  | k + 4 => exact ⟨by simp [Tm.sc], by simp [Tm.sc]⟩
/-- The sum of the first k scores. -/
def sumk (s : Tm) : Nat → Int
  | 0 => 0
  | k + 1 => sumk s k + s.sc k
theorem sumk_bound {s : Tm} (h : Scores s) : ∀ k, 0 ≤ sumk s k ∧ sumk s k ≤ 100 * k
  | 0 => ⟨Int.le_refl _, Int.le_refl _⟩
  | k + 1 => by
    have h1 := sumk_bound h k
    have h2 := sc_bound h k
    have h3 : sumk s (k + 1) = sumk s k + s.sc k := rfl
    omega
theorem sumk_all (s : Tm) : sumk s 4 = tot s := by simp [sumk, tot, Tm.sc]
theorem index_sc (s : Tm) (k : Nat) (hk : k < 4) (W : World) : (Instr.index 25 (.agg #[.int .i64 s.a, .int .i64 s.b, .int .i64 s.c, .int .i64 s.d]) (.int .i64 (k : Int))).run Tryd.prog W = .ok (.int .i64 (s.sc k)) W := by
  have h : k = 0 ∨ k = 1 ∨ k = 2 ∨ k = 3 := by omega
  rcases h with rfl | rfl | rfl | rfl <;> (show _ = _; kernel_rfl)
set_option maxHeartbeats 1000000 in
theorem total_walk (s : Tm) (w : World) (h : Scores s) : Calls Tryd.prog 13 #[.agg s.cells] w fun e w' => e = .returned (.int .i64 (tot s)) ∧ Below w.heap.size w w' := by
  unfold Tm.cells
  go_enter Tryd.func13, Tryd.ntmps13
  go_wp2
  go_loop [3, 5, 8] (fun v3 v5 v8 => ∃ k : Nat, k ≤ 4 ∧ v8 = .int .i64 (k : Int) ∧ v3 = .int .i64 (sumk s k)) (fun _ _ v8 => 4 - (intOf v8).toNat)
  case atStart => exact ⟨0, by omega, rfl, rfl⟩
  case round =>
    obtain ⟨k, hk, rfl, rfl⟩ := hrel
    by_cases hlt : k < 4
    · have zk : (k : Int) < 4 := by omega
      have hix := index_sc s k hlt
      have h1 := sumk_bound h k
      have h2 := sc_bound h k
      have h3 : sumk s (k + 1) = sumk s k + s.sc k := rfl
      have H3 := Lib.hid h3
      clear h3
      go_wp2
      go_round
      case rel => exact ⟨k + 1, by omega, by go_num, by rw [H3.out]⟩
      case measure => simp [intOf]; omega
    · obtain rfl : k = 4 := by omega
      clear hlt hk
      go_wp2
      go_ret
      exact ⟨by rw [← sumk_all]; rfl, (Below.refl _ _).alloc (Nat.le_refl _) _⟩
end Go.Proofs.YtjainkepgmdkiaaDoor.Ta
