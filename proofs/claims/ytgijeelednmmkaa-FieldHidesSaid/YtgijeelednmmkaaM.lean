/-
  Plain arithmetic of the field with 256 elements: the product of two bytes as a function on numbers.
-/
import Derived.RowKit
import Derived.Laws.BitsAllLaws
import Derived.Laws.BitsLemmas
namespace Go.Proofs.Ytgijeelednmmkaa.M
open Go.RowKit

/-- z times an element. -/
def xt (x : Nat) : Nat := if 255 < 2 * x then (2 * x) ^^^ 285 else 2 * x
def mulAux : Nat → Nat → Nat → Nat → Nat
  | 0, _, _, p => p
  | k + 1, b, x, p => mulAux k (b / 2) (xt x) (if b % 2 = 1 then p ^^^ x else p)
/-- The product. -/
def mul (a b : Nat) : Nat := mulAux 8 b a 0

theorem xor_lt (a b : Nat) (ha : a < 256) (hb : b < 256) : a ^^^ b < 256 := Nat.xor_lt_two_pow (n := 8) ha hb
theorem xt_lt (x : Nat) (h : x < 256) : xt x < 256 := by
  have key : ∀ x : Fin 256, xt x.val < 256 := by decide +kernel
  exact key ⟨x, h⟩
theorem mulAux_lt : ∀ (k b x p : Nat), x < 256 → p < 256 → mulAux k b x p < 256
  | 0, _, _, p, _, hp => hp
  | k + 1, b, x, p, hx, hp => by
    unfold mulAux
    refine mulAux_lt k _ _ _ (xt_lt x hx) ?_
    split
    · exact xor_lt _ _ hp hx
    · exact hp
theorem mul_lt (a b : Nat) (ha : a < 256) : mul a b < 256 := mulAux_lt 8 b a 0 ha (by omega)
theorem mulAux_zero : ∀ (k x p : Nat), mulAux k 0 x p = p
  | 0, _, _ => rfl
  | k + 1, x, p => by unfold mulAux; simp [mulAux_zero k]

/-- The product of two bytes, as numbers of the program. -/
def gm (a b : Int) : Int := ((mul a.toNat b.toNat : Nat) : Int)
theorem gm_range (a b : Int) (ha : a ≤ 255) : 0 ≤ gm a b ∧ gm a b ≤ 255 := by
  unfold gm
  have := mul_lt a.toNat b.toNat (by omega)
  omega

theorem ofInt_i64 (a : Nat) (ha : a < 9223372036854775808) : (BitVec.ofInt 64 (a : Int)).toNat = a := by
  rw [BitVec.ofInt_natCast, BitVec.toNat_ofNat]; exact Nat.mod_eq_of_lt (by omega)
theorem i64_xor_nat (a b : Nat) (ha : a < 9223372036854775808) (hb : b < 9223372036854775808) : Go.bits .xor .i64 (a : Int) (b : Int) = ((a ^^^ b : Nat) : Int) := by
  have hx : a ^^^ b < 2 ^ 63 := Nat.xor_lt_two_pow (by omega) (by omega)
  show IntKind.i64.wrap ((BitVec.ofInt 64 (a : Int) ^^^ BitVec.ofInt 64 (b : Int)).toNat : Int) = _
  rw [BitVec.toNat_xor, ofInt_i64 a ha, ofInt_i64 b hb, IntKind.wrap_i64]
  omega
theorem ofInt_u8 (a : Nat) (ha : a < 256) : (BitVec.ofInt 8 (a : Int)).toNat = a := by
  rw [BitVec.ofInt_natCast, BitVec.toNat_ofNat]; exact Nat.mod_eq_of_lt (by omega)
theorem wrap_u8 (n : Nat) (h : n < 256) : IntKind.u8.wrap (n : Int) = n := by
  show ((BitVec.ofInt 8 (n : Int)).toNat : Int) = _
  rw [ofInt_u8 n h]
theorem u8_xor_nat (a b : Nat) (ha : a < 256) (hb : b < 256) : Go.bits .xor .u8 (a : Int) (b : Int) = ((a ^^^ b : Nat) : Int) := by
  show IntKind.u8.wrap ((BitVec.ofInt 8 (a : Int) ^^^ BitVec.ofInt 8 (b : Int)).toNat : Int) = _
  rw [BitVec.toNat_xor, ofInt_u8 a ha, ofInt_u8 b hb, wrap_u8 _ (xor_lt a b ha hb)]
theorem u8_and_one (b : Nat) (hb : b < 256) : Go.bits .and .u8 (b : Int) 1 = ((b % 2 : Nat) : Int) := by
  show IntKind.u8.wrap ((BitVec.ofInt 8 (b : Int) &&& BitVec.ofInt 8 ((1 : Nat) : Int)).toNat : Int) = _
  rw [BitVec.toNat_and, ofInt_u8 b hb, ofInt_u8 1 (by omega), Nat.and_one_is_mod, wrap_u8 _ (by omega)]
end Go.Proofs.Ytgijeelednmmkaa.M
