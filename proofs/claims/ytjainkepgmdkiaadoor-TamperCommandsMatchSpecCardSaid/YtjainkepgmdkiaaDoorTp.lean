/-
  What is permitted: the walks of Permits, on both sides.
-/
import Derived.Test.YtjainkepgmdkiaaDoorTa
namespace Go.Proofs.YtjainkepgmdkiaaDoor.Tp
open Go.RowKit Go.Proofs.YtjainkepgmdkiaaDoor.B

/-- The commands that move secrets; those that are safe while a module is locked. -/
def mv (c : Int) : Bool := c == 2 || c == 3 || c == 14 || c == 15 || c == 16 || c == 18 || c == 19 || c == 21
def sf (c : Int) : Bool := c == 20 || decide (22 ≤ c)
def permE (m c : Int) : Int := if c < 1 ∨ 27 < c ∨ m < 1 ∨ 5 < m then 1 else if 4 ≤ m then 19 else if m = 2 ∧ mv c = true then 18 else if m = 3 ∧ sf c = false then 18 else 0
theorem mov_all : ∀ n : Fin 27, (Go.bits .and .i64 2998284 (wrap64 (2 ^ (n.val + 1))) != 0) = mv (n.val + 1) := by decide +kernel
theorem calm_all : ∀ n : Fin 27, (Go.bits .and .i64 265289728 (wrap64 (2 ^ (n.val + 1))) == 0) = !(sf (n.val + 1)) := by decide +kernel
theorem bit_all : ∀ n : Fin 27, (wrap64 (2 ^ (n.val + 1)) == 0) = false := by decide +kernel
theorem bits_of (c : Int) (h0 : 1 ≤ c) (h1 : c ≤ 27) : (wrap64 (2 ^ c.toNat) == 0) = false ∧ (Go.bits .and .i64 2998284 (wrap64 (2 ^ c.toNat)) != 0) = mv c ∧ (Go.bits .and .i64 265289728 (wrap64 (2 ^ c.toNat)) == 0) = !(sf c) := by
  obtain ⟨n, rfl⟩ : ∃ n : Fin 27, c = ((n.val + 1 : Nat) : Int) := ⟨⟨c.toNat - 1, by omega⟩, by simp only; omega⟩
  rw [Int.toNat_natCast]
  exact ⟨bit_all n, by rw [mov_all n]; rfl, by rw [calm_all n]; rfl⟩
abbrev Says (f : FuncId) (m c E : Int) : Prop := ∀ w : World, Calls Tryd.prog f #[.int .i64 m, .int .i64 c] w fun e w' => e = .returned (.int .i64 E) ∧ w = w'
set_option maxHeartbeats 4000000 in
set_option maxRecDepth 100000 in
theorem p_low (m c : Int) (h0 : 1 ≤ c) (h1 : c ≤ 27) (hm : m < 1) : Says 14 m c 1 := by
  obtain ⟨k0, k1, k2⟩ := bits_of c h0 h1
  intro w
  generalize hq : wrap64 (2 ^ c.toNat) = B at k0 k1 k2
  clear k1 k2
  go_enter Tryd.func14, Tryd.ntmps14
  go_wp2
  go_ret
  exact ⟨rfl, rfl⟩
set_option maxHeartbeats 4000000 in
set_option maxRecDepth 100000 in
theorem p_high (m c : Int) (h0 : 1 ≤ c) (h1 : c ≤ 27) (hm : 5 < m) : Says 14 m c 1 := by
  obtain ⟨k0, k1, k2⟩ := bits_of c h0 h1
  intro w
  have dm : decide (m < 1) = false := decide_eq_false (by omega)
  generalize hq : wrap64 (2 ^ c.toNat) = B at k0 k1 k2
  clear k1 k2
  go_enter Tryd.func14, Tryd.ntmps14
  go_wp2
  go_ret
  exact ⟨rfl, rfl⟩
set_option maxHeartbeats 4000000 in
set_option maxRecDepth 100000 in
theorem p_end (m c : Int) (h0 : 1 ≤ c) (h1 : c ≤ 27) (hm : 4 ≤ m) (hM : m ≤ 5) : Says 14 m c 19 := by
  obtain ⟨k0, k1, k2⟩ := bits_of c h0 h1
  intro w
  have dm : decide (m < 1) = false := decide_eq_false (by omega)
  have dM : decide (5 < m) = false := decide_eq_false (by omega)
  generalize hq : wrap64 (2 ^ c.toNat) = B at k0 k1 k2
  clear k1 k2
  go_enter Tryd.func14, Tryd.ntmps14
  go_wp2
  go_ret
  exact ⟨rfl, rfl⟩
set_option maxHeartbeats 4000000 in
set_option maxRecDepth 100000 in
theorem p_1 (m c : Int) (h0 : 1 ≤ c) (h1 : c ≤ 27) (hm : m = 1) : Says 14 m c 0 := by
  obtain ⟨k0, k1, k2⟩ := bits_of c h0 h1
  intro w
  subst hm
  generalize hq : wrap64 (2 ^ c.toNat) = B at k0 k1 k2
  clear k1 k2
  go_enter Tryd.func14, Tryd.ntmps14
  go_wp2
  go_ret
  exact ⟨rfl, rfl⟩
set_option maxHeartbeats 4000000 in
set_option maxRecDepth 100000 in
theorem p_2y (m c : Int) (h0 : 1 ≤ c) (h1 : c ≤ 27) (hm : m = 2) (hv : mv c = true) : Says 14 m c 18 := by
  obtain ⟨k0, k1, k2⟩ := bits_of c h0 h1
  intro w
  subst hm
  rw [hv] at k1
  clear hv k2
  generalize hq : wrap64 (2 ^ c.toNat) = B at k0 k1
  go_enter Tryd.func14, Tryd.ntmps14
  go_wp2
  go_ret
  exact ⟨rfl, rfl⟩
set_option maxHeartbeats 4000000 in
set_option maxRecDepth 100000 in
theorem p_2n (m c : Int) (h0 : 1 ≤ c) (h1 : c ≤ 27) (hm : m = 2) (hv : mv c = false) : Says 14 m c 0 := by
  obtain ⟨k0, k1, k2⟩ := bits_of c h0 h1
  intro w
  subst hm
  rw [hv] at k1
  clear hv k2
  generalize hq : wrap64 (2 ^ c.toNat) = B at k0 k1
  go_enter Tryd.func14, Tryd.ntmps14
  go_wp2
  go_ret
  exact ⟨rfl, rfl⟩
set_option maxHeartbeats 4000000 in
set_option maxRecDepth 100000 in
theorem p_3y (m c : Int) (h0 : 1 ≤ c) (h1 : c ≤ 27) (hm : m = 3) (hv : sf c = true) : Says 14 m c 0 := by
  obtain ⟨k0, k1, k2⟩ := bits_of c h0 h1
  intro w
  subst hm
  rw [hv] at k2
  have k3 := k2
  simp only [Bool.not_true] at k3
  clear hv k1 k2
  generalize hq : wrap64 (2 ^ c.toNat) = B at k0 k3
  go_enter Tryd.func14, Tryd.ntmps14
  go_wp2
  go_ret
  exact ⟨rfl, rfl⟩
set_option maxHeartbeats 4000000 in
set_option maxRecDepth 100000 in
theorem p_3n (m c : Int) (h0 : 1 ≤ c) (h1 : c ≤ 27) (hm : m = 3) (hv : sf c = false) : Says 14 m c 18 := by
  obtain ⟨k0, k1, k2⟩ := bits_of c h0 h1
  intro w
  subst hm
  rw [hv] at k2
  have k3 := k2
  simp only [Bool.not_false] at k3
  clear hv k1 k2
  generalize hq : wrap64 (2 ^ c.toNat) = B at k0 k3
  go_enter Tryd.func14, Tryd.ntmps14
  go_wp2
  go_ret
  exact ⟨rfl, rfl⟩
set_option maxHeartbeats 4000000 in
set_option maxRecDepth 100000 in
theorem p_out (m c : Int) (h : c < 1 ∨ 27 < c) : Says 14 m c 1 := by
  intro w
  rcases h with h | h
  · have d0 : decide (1 ≤ c) = false := decide_eq_false (by omega)
    go_enter Tryd.func14, Tryd.ntmps14
    go_wp2
    go_ret
    exact ⟨rfl, rfl⟩
  · have d0 : decide (c ≤ 27) = false := decide_eq_false (by omega)
    have h0 : 1 ≤ c := by omega
    go_enter Tryd.func14, Tryd.ntmps14
    go_wp2
    go_ret
    exact ⟨rfl, rfl⟩
theorem permits_c (m c : Int) : Says 14 m c (permE m c) := by
  unfold permE
  by_cases hc : c < 1 ∨ 27 < c
  · rw [if_pos (by omega)]; exact p_out m c hc
  · by_cases hl : m < 1
    · rw [if_pos (by omega)]; exact p_low m c (by omega) (by omega) hl
    · by_cases hh : 5 < m
      · rw [if_pos (by omega)]; exact p_high m c (by omega) (by omega) hh
      · rw [if_neg (by omega)]
        by_cases h4 : 4 ≤ m
        · rw [if_pos h4]; exact p_end m c (by omega) (by omega) h4 (by omega)
        · rw [if_neg h4]
          have hm : m = 1 ∨ m = 2 ∨ m = 3 := by omega
          rcases hm with hm | hm | hm
          · rw [if_neg (by omega), if_neg (by omega)]; exact p_1 m c (by omega) (by omega) hm
          · cases hv : mv c
            · rw [if_neg (by simp), if_neg (by omega)]; exact p_2n m c (by omega) (by omega) hm hv
            · rw [if_pos ⟨hm, rfl⟩]; exact p_2y m c (by omega) (by omega) hm hv
          · rw [if_neg (by omega)]
            cases hv : sf c
            · rw [if_pos ⟨hm, rfl⟩]; exact p_3n m c (by omega) (by omega) hm hv
            · rw [if_neg (by simp)]; exact p_3y m c (by omega) (by omega) hm hv
end Go.Proofs.YtjainkepgmdkiaaDoor.Tp
