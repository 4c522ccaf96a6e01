/-
  The two rotations, and what they are in plain arithmetic.
-/
import Derived.Test.YtpojbjldboknmaaPCipherMatchesSpecx0
import Derived.Test.YtpojbjldboknmaaB
import Derived.WalkSpells
import Derived.WalkLawsBesides
import Derived.Lib.Hide
namespace Go.Proofs.Ytpojbjldboknmaa.Ra
open Go.RowKit Go.Proofs.Ytpojbjldboknmaa.B Go.Proofs.YtpojbjldboknmaaW.PrintWords Go.Proofs.YtpojbjldboknmaaW.PrintLast Go.Proofs.YtpojbjldboknmaaW.PrintMore
/-! ### bits_RotateLeft32: function 27 -/
def bits_RotateLeft32.f (a0 : Int) (a1 : Int) : Option (Int) := if 0 ≤ (Go.bits .and .u64 (IntKind.u64.wrap (a1)) 31) then (if 0 ≤ (IntKind.u64.wrap (32 - (Go.bits .and .u64 (IntKind.u64.wrap (a1)) 31))) then (some (Go.bits .or .u32 (shl .u32 a0 (Go.bits .and .u64 (IntKind.u64.wrap (a1)) 31)) (shr .u32 a0 (IntKind.u64.wrap (32 - (Go.bits .and .u64 (IntKind.u64.wrap (a1)) 31)))))) else (none)) else (none)
set_option maxHeartbeats 8000000 in
set_option maxRecDepth 100000 in
theorem bits_RotateLeft32.calls (a0 : Int) (a1 : Int) (r : Int) (w : World) (h : bits_RotateLeft32.f a0 a1 = some r) :
    Calls Try.prog 27 #[.int .u32 a0, .int .i64 a1] w fun e w' => e = .returned (.int .u32 r) ∧ w = w' := by
  have H : (if 0 ≤ (Go.bits .and .u64 (IntKind.u64.wrap (a1)) 31) then (if 0 ≤ (IntKind.u64.wrap (32 - (Go.bits .and .u64 (IntKind.u64.wrap (a1)) 31))) then (some (Go.bits .or .u32 (shl .u32 a0 (Go.bits .and .u64 (IntKind.u64.wrap (a1)) 31)) (shr .u32 a0 (IntKind.u64.wrap (32 - (Go.bits .and .u64 (IntKind.u64.wrap (a1)) 31)))))) else (none)) else (none)) = some r := h
  clear h
  obtain ⟨ji3, hji3⟩ : ∃ j_ : Int, (Go.bits .and .u64 (IntKind.u64.wrap (a1)) 31) = j_ := ⟨_, rfl⟩
  replace H : (if 0 ≤ (ji3) then (if 0 ≤ (IntKind.u64.wrap (32 - (ji3))) then (some (Go.bits .or .u32 (shl .u32 a0 (ji3)) (shr .u32 a0 (IntKind.u64.wrap (32 - (ji3)))))) else (none)) else (none)) = some r := by first | (rw [hji3] at H; exact H) | (simp only [hji3] at H ⊢; exact H)
  by_cases c4 : 0 ≤ (ji3)
  · rw [if_pos c4] at H
    have c4b0 := eq_true c4
    have c4b1 : decide (0 ≤ (ji3)) = true := decide_eq_true c4
    clear c4
    obtain ⟨ji5, hji5⟩ : ∃ j_ : Int, (shl .u32 a0 (ji3)) = j_ := ⟨_, rfl⟩
    replace H : (if 0 ≤ (IntKind.u64.wrap (32 - (ji3))) then (some (Go.bits .or .u32 (ji5) (shr .u32 a0 (IntKind.u64.wrap (32 - (ji3)))))) else (none)) = some r := by first | (rw [hji5] at H; exact H) | (simp only [hji5] at H ⊢; exact H)
    have hji5_ : (IntKind.u32.wrap (a0 * 2 ^ min (ji3).toNat 32)) = ji5 := hji5
    have hji5z : (ji3) ≤ 32 → (IntKind.u32.wrap (a0 * 2 ^ (ji3).toNat)) = ji5 := shl_small hji5
    obtain ⟨ji6, hji6⟩ : ∃ j_ : Int, (IntKind.u64.wrap (32 - (ji3))) = j_ := ⟨_, rfl⟩
    replace H : (if 0 ≤ (ji6) then (some (Go.bits .or .u32 (ji5) (shr .u32 a0 (ji6)))) else (none)) = some r := by first | (rw [hji6] at H; exact H) | (simp only [hji6] at H ⊢; exact H)
    by_cases c7 : 0 ≤ (ji6)
    · rw [if_pos c7] at H
      have c7b0 := eq_true c7
      have c7b1 : decide (0 ≤ (ji6)) = true := decide_eq_true c7
      clear c7
      obtain ⟨ji8, hji8⟩ : ∃ j_ : Int, (shr .u32 a0 (ji6)) = j_ := ⟨_, rfl⟩
      replace H : (some (Go.bits .or .u32 (ji5) (ji8))) = some r := by first | (rw [hji8] at H; exact H) | (simp only [hji8] at H ⊢; exact H)
      have hji8_ : (a0 / 2 ^ min (ji6).toNat 32) = ji8 := hji8
      have hji8z : (ji6) ≤ 32 → (a0 / 2 ^ (ji6).toNat) = ji8 := shr_small hji8
      obtain rfl := Option.some.inj H
      go_enter Try.func27, Try.ntmps27
      go_wp2
      go_ret
      exact ⟨by first | rfl | (simp; done) | (simp only [← hji3, ← hji5, ← hji6, ← hji8] <;> (first | rfl | simp)) | (simp [*]; done), rfl⟩
    · rw [if_neg c7] at H
      exact absurd H (by simp)
  · rw [if_neg c4] at H
    exact absurd H (by simp)


/-! ### custodyref03_rotl: function 28 -/
def custodyref03_rotl.f (a0 : Int) (a1 : Int) : Option (Int) := if 0 ≤ a1 then (if 0 ≤ (wrap64 (32 - a1)) then (some (Go.bits .or .u32 (shl .u32 a0 a1) (shr .u32 a0 (wrap64 (32 - a1))))) else (none)) else (none)
set_option maxHeartbeats 8000000 in
set_option maxRecDepth 100000 in
theorem custodyref03_rotl.calls (a0 : Int) (a1 : Int) (r : Int) (w : World) (h : custodyref03_rotl.f a0 a1 = some r) :
    Calls Try.prog 28 #[.int .u32 a0, .int .i64 a1] w fun e w' => e = .returned (.int .u32 r) ∧ ∃ m, w' = w.drewN m := by
  have H : (if 0 ≤ a1 then (if 0 ≤ (wrap64 (32 - a1)) then (some (Go.bits .or .u32 (shl .u32 a0 a1) (shr .u32 a0 (wrap64 (32 - a1))))) else (none)) else (none)) = some r := h
  clear h
  by_cases c3 : 0 ≤ a1
  · rw [if_pos c3] at H
    have c3b0 := eq_true c3
    have c3b1 : decide (0 ≤ a1) = true := decide_eq_true c3
    clear c3
    obtain ⟨ji4, hji4⟩ : ∃ j_ : Int, (shl .u32 a0 a1) = j_ := ⟨_, rfl⟩
    replace H : (if 0 ≤ (wrap64 (32 - a1)) then (some (Go.bits .or .u32 (ji4) (shr .u32 a0 (wrap64 (32 - a1))))) else (none)) = some r := by first | (rw [hji4] at H; exact H) | (simp only [hji4] at H ⊢; exact H)
    have hji4_ : (IntKind.u32.wrap (a0 * 2 ^ min a1.toNat 32)) = ji4 := hji4
    have hji4z : a1 ≤ 32 → (IntKind.u32.wrap (a0 * 2 ^ a1.toNat)) = ji4 := shl_small hji4
    obtain ⟨ji5, hji5⟩ : ∃ j_ : Int, (wrap64 (32 - a1)) = j_ := ⟨_, rfl⟩
    replace H : (if 0 ≤ (ji5) then (some (Go.bits .or .u32 (ji4) (shr .u32 a0 (ji5)))) else (none)) = some r := by first | (rw [hji5] at H; exact H) | (simp only [hji5] at H ⊢; exact H)
    have hji5w : (IntKind.i64.wrap (32 - a1)) = ji5 := (i64_w _).trans hji5
    by_cases c6 : 0 ≤ (ji5)
    · rw [if_pos c6] at H
      have c6b0 := eq_true c6
      have c6b1 : decide (0 ≤ (ji5)) = true := decide_eq_true c6
      clear c6
      obtain ⟨ji7, hji7⟩ : ∃ j_ : Int, (shr .u32 a0 (ji5)) = j_ := ⟨_, rfl⟩
      replace H : (some (Go.bits .or .u32 (ji4) (ji7))) = some r := by first | (rw [hji7] at H; exact H) | (simp only [hji7] at H ⊢; exact H)
      have hji7_ : (a0 / 2 ^ min (ji5).toNat 32) = ji7 := hji7
      have hji7z : (ji5) ≤ 32 → (a0 / 2 ^ (ji5).toNat) = ji7 := shr_small hji7
      obtain rfl := Option.some.inj H
      go_enter Try.func28, Try.ntmps28
      go_wp2
      repeat (go_quiet (fail); try go_wp2)
      go_ret
      exact ⟨by first | rfl | (simp; done) | (simp only [← hji4, ← hji5, ← hji7] <;> (first | rfl | simp)) | (simp [*]; done), ⟨_, rfl⟩⟩
    · rw [if_neg c6] at H
      exact absurd H (by simp)
  · rw [if_neg c3] at H
    exact absurd H (by simp)


/-- A rotation in plain arithmetic. -/
def rot (x n : Nat) : Nat := x * 2 ^ n % 4294967296 + x / 2 ^ (32 - n)
theorem rot_lt (x n : Nat) (hx : x < 4294967296) (hn : n ∈ [7, 8, 12, 16, 20, 24, 25]) : rot x n < 4294967296 := by
  simp only [List.mem_cons, List.not_mem_nil, or_false] at hn
  unfold rot
  rcases hn with rfl | rfl | rfl | rfl | rfl | rfl | rfl <;> (simp only [Nat.reducePow, Nat.reduceSub]; omega)
theorem ofInt_u32 (a : Nat) (ha : a < 4294967296) : (BitVec.ofInt 32 (a : Int)).toNat = a := by
  rw [BitVec.ofInt_natCast, BitVec.toNat_ofNat]; exact Nat.mod_eq_of_lt (by omega)
theorem wrap_u32 (n : Nat) : IntKind.u32.wrap (n : Int) = ((n % 4294967296 : Nat) : Int) := by
  show ((BitVec.ofInt 32 (n : Int)).toNat : Int) = _
  rw [BitVec.ofInt_natCast, BitVec.toNat_ofNat]
theorem wrap_u32_lt (n : Nat) (h : n < 4294967296) : IntKind.u32.wrap (n : Int) = (n : Int) := by rw [wrap_u32, Nat.mod_eq_of_lt h]
theorem or_lt32 (a b : Nat) (ha : a < 4294967296) (hb : b < 4294967296) : a ||| b < 4294967296 := Nat.or_lt_two_pow (n := 32) ha hb
theorem xor_lt32 (a b : Nat) (ha : a < 4294967296) (hb : b < 4294967296) : a ^^^ b < 4294967296 := Nat.xor_lt_two_pow (n := 32) ha hb
theorem u32_or_nat (a b : Nat) (ha : a < 4294967296) (hb : b < 4294967296) : Go.bits .or .u32 (a : Int) (b : Int) = ((a ||| b : Nat) : Int) := by
  show IntKind.u32.wrap ((BitVec.ofInt 32 (a : Int) ||| BitVec.ofInt 32 (b : Int)).toNat : Int) = _
  rw [BitVec.toNat_or, ofInt_u32 a ha, ofInt_u32 b hb, wrap_u32_lt _ (or_lt32 a b ha hb)]
theorem u32_xor_nat (a b : Nat) (ha : a < 4294967296) (hb : b < 4294967296) : Go.bits .xor .u32 (a : Int) (b : Int) = ((a ^^^ b : Nat) : Int) := by
  show IntKind.u32.wrap ((BitVec.ofInt 32 (a : Int) ^^^ BitVec.ofInt 32 (b : Int)).toNat : Int) = _
  rw [BitVec.toNat_xor, ofInt_u32 a ha, ofInt_u32 b hb, wrap_u32_lt _ (xor_lt32 a b ha hb)]
theorem u32_add_nat (a b : Nat) : IntKind.u32.wrap ((a : Int) + (b : Int)) = (((a + b) % 4294967296 : Nat) : Int) := by rw [← wrap_u32, Int.natCast_add]
theorem parts_or (q b n : Nat) (hb : b < 2 ^ n) : (2 ^ n * q) ||| b = 2 ^ n * q + b := (Nat.two_pow_add_eq_or_of_lt hb q).symm
theorem rot_or (x n : Nat) (hx : x < 4294967296) (hn : n ∈ [7, 8, 12, 16, 20, 24, 25]) : x * 2 ^ n % 4294967296 ||| x / 2 ^ (32 - n) = rot x n := by
  have h1 : x * 2 ^ n % 4294967296 = 2 ^ n * (x % 2 ^ (32 - n)) := by
    simp only [List.mem_cons, List.not_mem_nil, or_false] at hn
    rcases hn with rfl | rfl | rfl | rfl | rfl | rfl | rfl <;> (simp only [Nat.reducePow, Nat.reduceSub]; omega)
  have h2 : x / 2 ^ (32 - n) < 2 ^ n := by
    simp only [List.mem_cons, List.not_mem_nil, or_false] at hn
    rcases hn with rfl | rfl | rfl | rfl | rfl | rfl | rfl <;> (simp only [Nat.reducePow, Nat.reduceSub]; omega)
  rw [rot, h1]
  exact parts_or _ _ _ h2
theorem rot_bits (x n : Nat) (hx : x < 4294967296) (hn : n ∈ [7, 8, 12, 16, 20, 24, 25]) : Go.bits .or .u32 (shl .u32 (x : Int) (n : Int)) (shr .u32 (x : Int) ((32 - n : Nat) : Int)) = ((rot x n : Nat) : Int) := by
  have hn' : n ≤ 32 := by
    simp only [List.mem_cons, List.not_mem_nil, or_false] at hn
    omega
  have h1 : shl .u32 (x : Int) (n : Int) = ((x * 2 ^ n % 4294967296 : Nat) : Int) := by
    show IntKind.u32.wrap ((x : Int) * 2 ^ min ((n : Int).toNat) 32) = _
    rw [Int.toNat_natCast, Nat.min_eq_left hn', ← wrap_u32]
    simp
  have h2 : shr .u32 (x : Int) ((32 - n : Nat) : Int) = ((x / 2 ^ (32 - n) : Nat) : Int) := by
    show (x : Int) / 2 ^ min (((32 - n : Nat) : Int).toNat) 32 = _
    rw [Int.toNat_natCast, Nat.min_eq_left (by omega)]
    simp
  rw [h1, h2, u32_or_nat _ _ (Nat.mod_lt _ (by omega)) (Nat.lt_of_le_of_lt (Nat.div_le_self _ _) hx), rot_or x n hx hn]
/-- The rotation of the code. -/
theorem rotate_walk (x n : Nat) (w : World) (hx : x < 4294967296) (hn : n ∈ [7, 8, 12, 16]) {i : Int} (hi : i = (n : Int)) : Calls Try.prog 27 #[.int .u32 (x : Int), .int .i64 i] w fun e w' => e = .returned (.int .u32 (rot x n : Nat)) ∧ w = w' := by
  subst hi
  refine bits_RotateLeft32.calls _ _ _ w ?_
  have hb := rot_bits x n hx (by simp only [List.mem_cons, List.not_mem_nil, or_false] at hn ⊢; omega)
  simp only [List.mem_cons, List.not_mem_nil, or_false] at hn
  rw [← hb]
  rcases hn with rfl | rfl | rfl | rfl <;> rfl
theorem rotate_still (x n : Nat) (w : World) (hx : x < 4294967296) (hn : n ∈ [7, 8, 12, 16]) {i : Int} (hi : i = (n : Int)) : Calls Try.prog 27 #[.int .u32 (x : Int), .int .i64 i] w fun e w' => e = .returned (.int .u32 (rot x n : Nat)) ∧ w' = w := (rotate_walk x n w hx hn hi).mono fun _ _ h => ⟨h.1, h.2.symm⟩
/-- The rotation of the specification. -/
theorem rotl_walk (x n : Nat) (w : World) (hx : x < 4294967296) (hn : n ∈ [7, 8, 12, 16, 20, 24, 25]) {i : Int} (hi : i = (n : Int)) : Calls Try.prog 28 #[.int .u32 (x : Int), .int .i64 i] w fun e w' => e = .returned (.int .u32 (rot x n : Nat)) ∧ ∃ m, w' = w.drewN m := by
  subst hi
  refine custodyref03_rotl.calls _ _ _ w ?_
  have hb := rot_bits x n hx hn
  simp only [List.mem_cons, List.not_mem_nil, or_false] at hn
  rw [← hb]
  have hw : wrap64 (32 - (n : Int)) = ((32 - n : Nat) : Int) := by rcases hn with rfl | rfl | rfl | rfl | rfl | rfl | rfl <;> decide +kernel
  show (if 0 ≤ (n : Int) then (if 0 ≤ (wrap64 (32 - (n : Int))) then (some (Go.bits .or .u32 (shl .u32 (x : Int) n) (shr .u32 (x : Int) (wrap64 (32 - (n : Int)))))) else (none)) else (none)) = _
  rw [hw, if_pos (by omega), if_pos (by omega)]
theorem turn_parts (N M q r : Nat) (hN : 0 < N) (hr : r < M) : (q * M + r) * N % (M * N) + (q * M + r) / M = r * N + q := by
  have h1 : (q * M + r) * N = r * N + M * N * q := by rw [Nat.add_mul, Nat.mul_assoc, Nat.mul_comm q (M * N), Nat.add_comm]
  have h2 : r * N < M * N := Nat.mul_lt_mul_of_pos_right hr hN
  have h3 : (q * M + r) / M = q := by rw [Nat.mul_comm, Nat.mul_add_div (by omega), Nat.div_eq_of_lt hr, Nat.add_zero]
  rw [h1, Nat.add_mul_mod_self_left, Nat.mod_eq_of_lt h2, h3]
theorem turn_back (N M x : Nat) (hN : 0 < N) (hM : 0 < M) (hx : x < N * M) : (x * N % (M * N) + x / M) * M % (N * M) + (x * N % (M * N) + x / M) / N = x := by
  have h0 : x = x / M * M + x % M := (Nat.div_add_mod' x M).symm
  have hq : x / M < N := Nat.div_lt_of_lt_mul (by rwa [Nat.mul_comm])
  have hr : x % M < M := Nat.mod_lt _ hM
  have h1 : x * N % (M * N) + x / M = x % M * N + x / M := by
    have h := turn_parts N M (x / M) (x % M) hN hr
    rwa [← h0] at h
  rw [h1, turn_parts M N (x % M) (x / M) hM hq, ← h0]
theorem rot_back (x n : Nat) (hx : x < 4294967296) (hn : n ∈ [7, 8, 12, 16]) : rot (rot x n) (32 - n) = x := by
  simp only [List.mem_cons, List.not_mem_nil, or_false] at hn
  rcases hn with rfl | rfl | rfl | rfl
  · exact turn_back 128 33554432 x (by omega) (by omega) (by omega)
  · exact turn_back 256 16777216 x (by omega) (by omega) (by omega)
  · exact turn_back 4096 1048576 x (by omega) (by omega) (by omega)
  · exact turn_back 65536 65536 x (by omega) (by omega) (by omega)
end Go.Proofs.Ytpojbjldboknmaa.Ra
