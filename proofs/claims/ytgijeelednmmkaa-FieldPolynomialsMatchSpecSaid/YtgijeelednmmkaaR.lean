/-
  What the specification's functions compute: the product, the inverse and the quotient.
-/
import Derived.Test.YtgijeelednmmkaaPAllx2
import Derived.Test.YtgijeelednmmkaaG
namespace Go.Proofs.Ytgijeelednmmkaa.R
open Go.RowKit Go.Proofs.Ytgijeelednmmkaa.M Go.Proofs.Ytgijeelednmmkaa.Wa Go.Proofs.Ytgijeelednmmkaa.Wc Go.Proofs.Ytgijeelednmmkaa.G Go.Proofs.Ytgijeelednmmkaa.PAll Go.Proofs.YtgijeelednmmkaaW.PrintWords Go.Proofs.YtgijeelednmmkaaW.PrintLast Go.Proofs.YtgijeelednmmkaaW.PrintMore

theorem byte {a : Int} (h : (Lit.int .u8 a).wf = true) : ∃ n : Nat, a = (n : Int) ∧ n < 256 := by
  simp only [Lit.wf, IntKind.min, IntKind.max, IntKind.signed, IntKind.bits] at h
  simp at h
  exact ⟨a.toNat, by omega, by omega⟩
theorem w64 (n : Int) (h : -9223372036854775808 ≤ n) (h' : n < 9223372036854775808) : wrap64 n = n := by unfold wrap64; omega

theorem bit_at (b i : Nat) (hb : b < 256) (hi : i < 8) : Int.tmod (shr .i64 (wrap64 (b : Int)) (i : Int)) 2 = ((stB b i % 2 : Nat) : Int) := by
  rw [w64 _ (by omega) (by omega)]
  have e : shr .i64 (b : Int) (i : Int) = ((b / 2 ^ i : Nat) : Int) := by
    unfold shr
    have h2 : min ((i : Int).toNat) IntKind.i64.bits = i := by simp [IntKind.bits]; omega
    rw [h2]
    simp
  rw [e]
  unfold stB
  generalize b / 2 ^ i = q
  rw [Int.tmod_eq_emod_of_nonneg (by omega)]
  omega
theorem x_big (a i : Nat) (hx : stX a i < 256) (h : (256 : Int) ≤ 2 * (stX a i : Int)) : Go.bits .xor .i64 (2 * (stX a i : Int)) 285 = ((stX a (i + 1) : Nat) : Int) := by
  have h1 := stX_big a i hx (by omega)
  rwa [Int.mul_comm] at h1
theorem ref_mul_l0 (a b : Nat) (ha : a < 256) (hb : b < 256) : ∀ (d k i : Nat), i + d = 8 → d < k →
    custodyref06_Mul.l0 k (b : Int) (stP a b i : Nat) (stX a i : Nat) (i : Int) = some ((stP a b 8 : Nat) : Int)
  | 0, k, i, h, hk => by
    obtain ⟨k, rfl⟩ : ∃ m, k = m + 1 := ⟨k - 1, by omega⟩
    obtain rfl : i = 8 := by omega
    simp only [custodyref06_Mul.l0]
    have := stP_lt a b ha 8
    rw [if_neg (by omega)]
    congr 1
    omega
  | d + 1, k, i, h, hk => by
    obtain ⟨k, rfl⟩ : ∃ m, k = m + 1 := ⟨k - 1, by omega⟩
    have hx := stX_lt a ha i
    have hp := stP_lt a b ha i
    have ih := ref_mul_l0 a b ha hb d k (i + 1) (by omega) (by omega)
    have ei : wrap64 ((i : Int) + 1) = ((i + 1 : Nat) : Int) := by rw [w64 _ (by omega) (by omega)]; omega
    have ew : wrap64 (2 * (stX a i : Int)) = 2 * (stX a i : Int) := w64 _ (by omega) (by omega)
    simp only [custodyref06_Mul.l0]
    rw [if_pos (by omega), if_pos (by omega), bit_at b i hb (by omega), ew, ei]
    by_cases h1 : stB b i % 2 = 1
    · have e1 : Go.bits .xor .i64 (stP a b i : Int) (stX a i : Int) = ((stP a b (i + 1) : Nat) : Int) := by
        rw [i64_xor_nat _ _ (by omega) (by omega), stP, if_pos h1]
      rw [if_pos (by omega), e1]
      by_cases h2 : (256 : Int) ≤ 2 * (stX a i : Int)
      · rw [if_pos h2, x_big a i hx h2]; exact ih
      · rw [if_neg h2, Int.mul_comm, stX_small a i (by omega)]; exact ih
    · have e1 : stP a b i = stP a b (i + 1) := by rw [stP, if_neg h1]
      rw [if_neg (by omega), e1]
      by_cases h2 : (256 : Int) ≤ 2 * (stX a i : Int)
      · rw [if_pos h2, x_big a i hx h2]; exact ih
      · rw [if_neg h2, Int.mul_comm, stX_small a i (by omega)]; exact ih
theorem ref_mul (a b k : Nat) (ha : a < 256) (hb : b < 256) (hk : 8 < k) : custodyref06_Mul.f k (a : Int) (b : Int) = some ((mul a b : Nat) : Int) := by
  unfold custodyref06_Mul.f
  rw [w64 _ (by omega) (by omega), mul_st a b 8 (stB_end b 8 hb (Nat.le_refl _)) (Nat.le_refl _)]
  exact ref_mul_l0 a b ha hb 8 k 0 rfl hk

/-- A power. -/
def pw (a : Nat) : Nat → Nat
  | 0 => 1
  | n + 1 => mul (pw a n) a
theorem pw_lt (a : Nat) : ∀ n, pw a n < 256
  | 0 => by unfold pw; omega
  | n + 1 => mul_lt _ _ (pw_lt a n)
theorem pw_add (a : Nat) (ha : a < 256) (m : Nat) : ∀ n, pw a (m + n) = mul (pw a m) (pw a n)
  | 0 => by rw [Nat.add_zero, pw, mul_one]
  | n + 1 => by
    rw [Nat.add_succ, pw, pw_add a ha m n, pw, mul_assoc _ _ _ (pw_lt a m) (pw_lt a n) ha]
theorem sq_pw (a : Nat) (ha : a < 256) : ∀ j, sq a j = pw a (2 ^ j)
  | 0 => by
    show a = mul (pw a 0) a
    unfold pw
    rw [mul_comm 1 a (by omega) ha, mul_one]
  | j + 1 => by
    rw [sq, sq_pw a ha j, ← pw_add a ha, Nat.pow_succ, Nat.mul_two]
theorem pq_pw (a : Nat) (ha : a < 256) : ∀ j, pq a j = pw a (2 ^ (j + 1) - 2)
  | 0 => rfl
  | j + 1 => by
    have h : 2 ≤ 2 ^ (j + 1) := by
      have := Nat.pow_le_pow_right (show 0 < 2 by omega) (show 1 ≤ j + 1 by omega)
      omega
    rw [pq, pq_pw a ha j, sq_pw a ha (j + 1), ← pw_add a ha]
    congr 1
    rw [Nat.pow_succ 2 (j + 1)]
    omega
theorem inv_pw (a : Nat) (ha : a < 256) : inv a = pw a 254 := pq_pw a ha 7

theorem ref_inv_l0 (a : Nat) (ha : a < 256) : ∀ (d k i : Nat), i + d = 254 → d + 9 < k →
    custodyref06_Inv.l0 k (a : Int) (pw a i : Nat) (i : Int) = some (((pw a 254 : Nat) : Int), 0)
  | 0, k, i, h, hk => by
    obtain ⟨k, rfl⟩ : ∃ m, k = m + 1 := ⟨k - 1, by omega⟩
    obtain rfl : i = 254 := by omega
    simp only [custodyref06_Inv.l0]
    rw [if_neg (by omega)]
  | d + 1, k, i, h, hk => by
    obtain ⟨k, rfl⟩ : ∃ m, k = m + 1 := ⟨k - 1, by omega⟩
    have ei : wrap64 ((i : Int) + 1) = ((i + 1 : Nat) : Int) := by rw [w64 _ (by omega) (by omega)]; omega
    simp only [custodyref06_Inv.l0]
    rw [if_pos (by omega), ref_mul _ _ k (pw_lt a i) ha (by omega), Option.bind_some, ei]
    exact ref_inv_l0 a ha d k (i + 1) (by omega) (by omega)
theorem dvs_one (a : Nat) : dvs 1 a = if a = 0 then 0 else inv a := by
  unfold dvs
  split
  · rfl
  · rw [mul_comm 1 _ (by omega) (inv_lt a), mul_one]
theorem ref_inv (a k : Nat) (ha : a < 256) (hk : 263 < k) : custodyref06_Inv.f k (a : Int) = some (((dvs 1 a : Nat) : Int), dve a) := by
  unfold custodyref06_Inv.f
  by_cases h : a = 0
  · subst h; rfl
  · rw [if_neg (by omega), dvs_one, if_neg h, inv_pw a ha, dve, if_neg h]
    exact ref_inv_l0 a ha 254 k 0 rfl (by omega)
theorem dvs_of (a b : Nat) (_ha : a < 256) : dvs a b = if b = 0 then 0 else mul a (dvs 1 b) := by
  rw [dvs_one]
  unfold dvs
  split
  · rfl
  · rfl
theorem ref_div (a b k : Nat) (ha : a < 256) (hb : b < 256) (hk : 263 < k) : custodyref06_Div.f k (a : Int) (b : Int) = some (((dvs a b : Nat) : Int), dve b) := by
  unfold custodyref06_Div.f
  rw [ref_inv b k hb hk, Option.bind_some]
  by_cases h : b = 0
  · subst h; rfl
  · have hd : dve b = 0 := by rw [dve, if_neg h]
    simp only [hd, if_true]
    rw [ref_mul a _ k ha (dvs_lt 1 b (by omega)) (by omega), Option.bind_some]
    unfold dvs
    rw [if_neg h, if_neg h, mul_comm 1 _ (by omega) (inv_lt b), mul_one]

/-! The program's functions at bytes. -/
theorem f_mul (a b : Nat) (ha : a < 256) (hb : b < 256) : field_Mul.f (a : Int) (b : Int) = some ((mul a b : Nat) : Int) := by
  unfold field_Mul.f fMul
  rw [if_pos (by omega)]; rfl
theorem f_div (a b : Nat) (ha : a < 256) (hb : b < 256) : field_Div.f (a : Int) (b : Int) = some (((dvs a b : Nat) : Int), dve b) := by
  unfold field_Div.f fDiv
  rw [if_pos (by omega)]; rfl
theorem f_inv (a : Nat) (ha : a < 256) : field_Inv.f (a : Int) = some (((dvs 1 a : Nat) : Int), dve a) := by
  unfold field_Inv.f We.fInv
  rw [if_pos (by omega)]; rfl
end Go.Proofs.Ytgijeelednmmkaa.R
