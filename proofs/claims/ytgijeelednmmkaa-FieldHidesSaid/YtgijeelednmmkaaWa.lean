/-
  The walks of the leaves: the product of two bytes; the inverse, which keeps its squares in an array.
-/
import Derived.Test.YtgijeelednmmkaaProg
import Derived.Test.YtgijeelednmmkaaM
import Derived.WalkKit
import Derived.WalkSpells
import Derived.WalkLawsBesides
import Derived.StillTailTactics
import Derived.Lib.Hide
import Derived.Test.YtgijeelednmmkaaB
namespace Go.Proofs.Ytgijeelednmmkaa.Wa
open Go.RowKit Go.Proofs.Ytgijeelednmmkaa.M Go.Proofs.Ytgijeelednmmkaa.B

/-- The state of the product's loop after a number of rounds. -/
def stB (b k : Nat) : Nat := b / 2 ^ k
def stX (a : Nat) : Nat → Nat
  | 0 => a
  | k + 1 => xt (stX a k)
def stP (a b : Nat) : Nat → Nat
  | 0 => 0
  | k + 1 => if stB b k % 2 = 1 then stP a b k ^^^ stX a k else stP a b k
theorem stX_lt (a : Nat) (h : a < 256) : ∀ k, stX a k < 256
  | 0 => h
  | k + 1 => xt_lt _ (stX_lt a h k)
theorem stP_lt (a b : Nat) (h : a < 256) : ∀ k, stP a b k < 256
  | 0 => by unfold stP; omega
  | k + 1 => by
    unfold stP
    split
    · exact xor_lt _ _ (stP_lt a b h k) (stX_lt a h k)
    · exact stP_lt a b h k
theorem aux_st (a b : Nat) : ∀ (d k : Nat), mulAux d (stB b k) (stX a k) (stP a b k) = stP a b (k + d)
  | 0, k => rfl
  | d + 1, k => by
    have h := aux_st a b d (k + 1)
    unfold mulAux
    rw [show k + (d + 1) = k + 1 + d by omega, ← h]
    congr 1
    · unfold stB; rw [Nat.pow_succ, Nat.div_div_eq_div_mul]
theorem mul_st (a b k : Nat) (hb : stB b k = 0) (hk : k ≤ 8) : mul a b = stP a b k := by
  have h1 := aux_st a b (8 - k) k
  rw [hb, mulAux_zero] at h1
  have h2 := aux_st a b 8 0
  have e : k + (8 - k) = 0 + 8 := by omega
  rw [h1, e, ← h2]
  show mulAux 8 b a 0 = mulAux 8 (stB b 0) (stX a 0) (stP a b 0)
  simp [stB, stX, stP]

theorem stB_next (b k : Nat) : ((stB b k : Nat) : Int) / 2 = ((stB b (k + 1) : Nat) : Int) := by
  unfold stB
  rw [Nat.pow_succ, ← Nat.div_div_eq_div_mul]
  omega
theorem stX_big (a k : Nat) (hx : stX a k < 256) (h : (255 : Int) < (stX a k : Int) * 2) : Go.bits .xor .i64 ((stX a k : Int) * 2) 285 = ((stX a (k + 1) : Nat) : Int) := by
  have e : (stX a k : Int) * 2 = ((2 * stX a k : Nat) : Int) := by omega
  rw [e, show (285 : Int) = ((285 : Nat) : Int) from rfl, i64_xor_nat _ _ (by omega) (by omega)]
  have h2 : 255 < 2 * stX a k := by omega
  rw [stX, xt, if_pos h2]
theorem stX_small (a k : Nat) (h : (stX a k : Int) * 2 ≤ 255) : (stX a k : Int) * 2 = ((stX a (k + 1) : Nat) : Int) := by
  have h2 : ¬ 255 < 2 * stX a k := by omega
  rw [stX, xt, if_neg h2]
  omega
theorem stP_odd (a b k : Nat) (ha : a < 256) (hb : stB b k < 256) (h : (Go.bits .and .u8 (stB b k : Int) 1 == 1) = true) : Go.bits .xor .i64 (stP a b k : Int) (stX a k : Int) = ((stP a b (k + 1) : Nat) : Int) := by
  rw [u8_and_one _ hb] at h
  have h1 : stB b k % 2 = 1 := by have := beq_iff_eq.1 h; omega
  rw [i64_xor_nat _ _ (by have := stP_lt a b ha k; omega) (by have := stX_lt a ha k; omega), stP, if_pos h1]
theorem stP_even (a b k : Nat) (hb : stB b k < 256) (h : (Go.bits .and .u8 (stB b k : Int) 1 == 1) = false) : (stP a b k : Int) = ((stP a b (k + 1) : Nat) : Int) := by
  rw [u8_and_one _ hb] at h
  have h1 : ¬ stB b k % 2 = 1 := by have := beq_eq_false_iff_ne.1 h; omega
  rw [stP, if_neg h1]
theorem stB_lt (b k : Nat) (hb : b < 256) : stB b k < 256 := Nat.lt_of_le_of_lt (Nat.div_le_self _ _) hb
theorem stB_end (b k : Nat) (hb : b < 256) (h : 8 ≤ k) : stB b k = 0 := by
  unfold stB
  have : 2 ^ 8 ≤ 2 ^ k := Nat.pow_le_pow_right (by omega) h
  exact Nat.div_eq_of_lt (by omega)

set_option maxHeartbeats 800000 in
theorem mul_walk (a b : Nat) (w : World) (ha : a < 256) (hb : b < 256) :
    Calls Try.prog 14 #[.int .u8 (a : Int), .int .u8 (b : Int)] w fun e w' => e = .returned (.int .u8 (mul a b : Nat)) ∧ w = w' := by
  go_enter Try.func14, Try.ntmps14
  go_wp2
  go_loop [1, 5, 6] (fun vb vx vp => ∃ k : Nat, k ≤ 8 ∧ vb = .int .u8 (stB b k : Nat) ∧ vx = .int .i64 (stX a k : Nat) ∧ vp = .int .i64 (stP a b k : Nat)) (fun vb _ _ => (intOf vb).toNat)
  case atStart => exact ⟨0, by omega, by simp [stB], rfl, rfl⟩
  case round =>
    obtain ⟨k, hk, rfl, rfl, rfl⟩ := hrel
    by_cases h0 : stB b k = 0
    · have hm := mul_st a b k h0 hk
      have HM := Lib.hid hm
      clear hm
      have hp := stP_lt a b ha k
      rw [h0]
      go_wp2
      go_ret
      exact ⟨ret_int (by rw [HM.out]), rfl⟩
    · have hx := stX_lt a ha k
      have hbk := stB_lt b k hb
      have hk8 : k < 8 := by
        rcases Nat.lt_or_ge k 8 with h | h
        · exact h
        · exact absurd (stB_end b k hb h) h0
      go_wp2
      all_goals
        go_round
        case rel => exact ⟨k + 1, by omega, by rw [stB_next], by first | rw [stX_big a k hx ‹_›] | rw [stX_small a k ‹_›], by first | rw [stP_odd a b k ha hbk ‹_›] | rw [stP_even a b k hbk ‹_›]⟩
        case measure => simp [intOf]; omega

theorem mul_still (a b : Nat) (w : World) (ha : a < 256) (hb : b < 256) :
    Calls Try.prog 14 #[.int .u8 (a : Int), .int .u8 (b : Int)] w fun e w' => e = .returned (.int .u8 (mul a b : Nat)) ∧ w' = w :=
  (mul_walk a b w ha hb).mono fun _ _ h => ⟨h.1, h.2.symm⟩

/-- The squares of an element, and the products of them. -/
def sq (a : Nat) : Nat → Nat
  | 0 => a
  | j + 1 => mul (sq a j) (sq a j)
def pq (a : Nat) : Nat → Nat
  | 0 => 1
  | j + 1 => mul (pq a j) (sq a (j + 1))
theorem sq_lt (a : Nat) (h : a < 256) : ∀ j, sq a j < 256
  | 0 => h
  | j + 1 => mul_lt _ _ (sq_lt a h j)
theorem pq_lt (a : Nat) : ∀ j, pq a j < 256
  | 0 => by unfold pq; omega
  | j + 1 => mul_lt _ _ (pq_lt a j)
def inv (a : Nat) : Nat := pq a 7

set_option maxHeartbeats 800000 in
theorem inverse_walk (a : Nat) (w : World) (ha : a < 256) :
    Calls Try.prog 26 #[.int .u8 (a : Int)] w fun e w' => e = .returned (.int .u8 (inv a : Nat)) ∧ Below w.heap.size w w' := by
  go_enter Try.func26, Try.ntmps26
  go_wp2
  go_loopw [4, 5] (fun v4 v5 wr => ∃ (j : Nat) (cs : Array Value), j ≤ 7 ∧ v5 = .int .i64 ((j : Int) + 1) ∧ v4 = .int .u8 (pq a j : Nat) ∧ Blk wr w.heap.size 45 cs ∧ cs.size = 8 ∧ (∀ i, i ≤ j → cs[i]? = some (.int .u8 (sq a i : Nat))) ∧ Below w.heap.size w wr) (fun _ v5 _ => 8 - (intOf v5).toNat)
  case atStart => exact ⟨0, _, by omega, rfl, rfl, Blk.new _ _ _, rfl, fun i hi => (show i = 0 from Nat.le_zero.1 hi) ▸ rfl, (Below.refl _ _).alloc (Nat.le_refl _) _⟩
  case round =>
    obtain ⟨j, cs, hj, rfl, rfl, hblk, hsz, hcs, hb⟩ := hrel
    by_cases h7 : j < 7
    · have hc0 := hblk.cell j
      rw [hcs j (Nat.le_refl _)] at hc0
      have hold : ∃ u, wr.cell? ⟨w.heap.size, j + 1, none⟩ = some u := ⟨_, (hblk.cell (j + 1)).trans (Array.getElem?_eq_getElem (by omega))⟩
      obtain ⟨u, hu⟩ := hold
      have hfz := hblk.frozen (j + 1)
      go_wp2
      have w1 : IntKind.i64.wrap (j : Int) = j := IntWalk.i64_in _ (by omega)
      have w2 : (j : Int) < 8 := by omega
      have w3 : (j : Int) + 1 < 8 := by omega
      have w4 : (0 : Int) ≤ (j : Int) + 1 := by omega
      have w5 : ((j : Int) + 1).toNat = j + 1 := by omega
      go_still_tail 11, (by kernel_rfl)
      still_call (mul_still _ _ _ (sq_lt a ha j) (sq_lt a ha j))
      repeat still_step
      refine wpStill_nil ?_
      change wpList _ _ _ _ _ wr.drew
      clear w1 w2 w3 w4 w5
      go_wp2_with (go_at_call 14; refine (mul_walk _ _ _ (pq_lt a j) (mul_lt _ _ (sq_lt a ha j))).mono ?_; rintro e w' ⟨rfl, rfl⟩)
      go_roundw
      case rel =>
        refine ⟨j + 1, cs.setIfInBounds (j + 1) (.int .u8 (sq a (j + 1) : Nat)), by omega, by go_num, rfl, (hblk.put (j + 1) _).drew, by simpa using hsz, fun i hi => ?_, ((hb.setCell (Nat.le_refl _) _).drew)⟩
        by_cases e : i = j + 1
        · subst e
          rw [Array.getElem?_setIfInBounds_self_of_lt (by omega)]
        · rw [Array.getElem?_setIfInBounds_ne (by omega)]
          exact hcs i (by omega)
      case measure => simp [intOf]; omega
    · obtain rfl : j = 7 := by omega
      go_wp2
      go_ret
      exact ⟨rfl, hb⟩
end Go.Proofs.Ytgijeelednmmkaa.Wa
