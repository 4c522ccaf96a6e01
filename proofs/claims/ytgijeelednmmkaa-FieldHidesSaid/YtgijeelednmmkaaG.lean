/-
  The field with 256 elements: the laws of its product; sums and polynomials over it.
-/
import Derived.Test.YtgijeelednmmkaaWa
namespace Go.Proofs.Ytgijeelednmmkaa.G
open Go.Proofs.Ytgijeelednmmkaa.M Go.Proofs.Ytgijeelednmmkaa.Wa

theorem xt_xor (x y : Nat) (hx : x < 256) (hy : y < 256) : xt (x ^^^ y) = xt x ^^^ xt y := by
  have key : ∀ x y : Fin 256, xt (x.val ^^^ y.val) = xt x.val ^^^ xt y.val := by decide +kernel
  exact key ⟨x, hx⟩ ⟨y, hy⟩
theorem xor4 (a b c d : Nat) : (a ^^^ b) ^^^ (c ^^^ d) = (a ^^^ c) ^^^ (b ^^^ d) := by ac_rfl
theorem aux_xor : ∀ (k b x y p q : Nat), x < 256 → y < 256 → mulAux k b (x ^^^ y) (p ^^^ q) = mulAux k b x p ^^^ mulAux k b y q
  | 0, _, _, _, _, _, _, _ => rfl
  | k + 1, b, x, y, p, q, hx, hy => by
    unfold mulAux
    rw [xt_xor x y hx hy]
    by_cases h : b % 2 = 1
    · rw [if_pos h, if_pos h, if_pos h, xor4, aux_xor k _ _ _ _ _ (xt_lt x hx) (xt_lt y hy)]
    · rw [if_neg h, if_neg h, if_neg h, aux_xor k _ _ _ _ _ (xt_lt x hx) (xt_lt y hy)]
theorem mul_xor_left (a a' b : Nat) (ha : a < 256) (ha' : a' < 256) : mul (a ^^^ a') b = mul a b ^^^ mul a' b := aux_xor 8 b a a' 0 0 ha ha'
theorem aux_xor_r : ∀ (k b c x p q : Nat), mulAux k (b ^^^ c) x (p ^^^ q) = mulAux k b x p ^^^ mulAux k c x q
  | 0, _, _, _, _, _ => rfl
  | k + 1, b, c, x, p, q => by
    unfold mulAux
    rw [Nat.xor_div_two, ← aux_xor_r k]
    congr 1
    have hm : (b ^^^ c) % 2 = 1 ↔ ¬ (b % 2 = 1 ↔ c % 2 = 1) := Nat.xor_mod_two_eq_one
    by_cases h1 : b % 2 = 1 <;> by_cases h2 : c % 2 = 1
    · rw [if_neg (by rw [hm]; simp [h1, h2]), if_pos h1, if_pos h2, xor4, Nat.xor_self, Nat.xor_zero]
    · rw [if_pos (by rw [hm]; simp [h1, h2]), if_pos h1, if_neg h2]; ac_rfl
    · rw [if_pos (by rw [hm]; simp [h1, h2]), if_neg h1, if_pos h2]; ac_rfl
    · rw [if_neg (by rw [hm]; simp [h1, h2]), if_neg h1, if_neg h2]
theorem mul_xor_right (a b c : Nat) : mul a (b ^^^ c) = mul a b ^^^ mul a c := aux_xor_r 8 b c a 0 0
theorem mul_zero (a : Nat) : mul a 0 = 0 := by unfold mul; rw [mulAux_zero]
theorem zero_mul (b : Nat) : mul 0 b = 0 := by
  have h : ∀ (k b p : Nat), mulAux k b 0 p = p := by
    intro k
    induction k with
    | zero => intros; rfl
    | succ k ih =>
      intro b p
      unfold mulAux
      rw [show xt 0 = 0 from rfl, ih]
      split <;> simp
  exact h 8 b 0
theorem mul_one (a : Nat) : mul a 1 = a := by
  show mulAux 8 1 a 0 = a
  unfold mulAux
  rw [show (1 : Nat) / 2 = 0 from rfl, mulAux_zero]
  simp

/-- What holds of 0, of 1, 2, 4 .. 128 and of sums holds of all elements. -/
theorem basis (P : Nat → Prop) (h0 : P 0) (hx : ∀ a b, a < 256 → b < 256 → P a → P b → P (a ^^^ b)) (hb : ∀ k, k < 8 → P (2 ^ k)) : ∀ a, a < 256 → P a := by
  have low : ∀ n : Fin 8, ∀ a : Fin 256, 2 ^ n.val ≤ a.val → a.val < 2 ^ (n.val + 1) → a.val ^^^ 2 ^ n.val < 2 ^ n.val := by decide +kernel
  have pw : ∀ n : Fin 8, 2 ^ n.val < 256 := by decide
  have key : ∀ n, n ≤ 8 → ∀ a, a < 2 ^ n → P a := by
    intro n
    induction n with
    | zero => intro _ a ha; obtain rfl : a = 0 := by simpa using ha
              exact h0
    | succ n ih =>
      intro hn a ha
      rcases Nat.lt_or_ge a (2 ^ n) with h | h
      · exact ih (by omega) a h
      · have h8 : 2 ^ (n + 1) ≤ 2 ^ 8 := Nat.pow_le_pow_right (by omega) hn
        have ha8 : a < 256 := by omega
        have h1 := low ⟨n, by omega⟩ ⟨a, ha8⟩ h ha
        have h2 := pw ⟨n, by omega⟩
        simp only at h1 h2
        have e : a = (a ^^^ 2 ^ n) ^^^ 2 ^ n := by rw [Nat.xor_assoc, Nat.xor_self, Nat.xor_zero]
        rw [e]
        exact hx _ _ (by omega) h2 (ih (by omega) _ h1) (hb n (by omega))
  exact fun a ha => key 8 (Nat.le_refl _) a (by omega)
theorem mul_comm (a b : Nat) (ha : a < 256) (hb : b < 256) : mul a b = mul b a := by
  have chk : ∀ i j : Fin 8, mul (2 ^ i.val) (2 ^ j.val) = mul (2 ^ j.val) (2 ^ i.val) := by decide +kernel
  have pw : ∀ n : Fin 8, 2 ^ n.val < 256 := by decide
  refine basis (fun a => ∀ b, b < 256 → mul a b = mul b a) (fun b _ => by rw [zero_mul, mul_zero]) (fun a a' h h' p p' b hb => by rw [mul_xor_left a a' b h h', mul_xor_right, p b hb, p' b hb]) (fun i hi => ?_) a ha b hb
  refine basis _ (by rw [zero_mul, mul_zero]) (fun b b' h h' p p' => by rw [mul_xor_left b b' _ h h', mul_xor_right, p, p']) (fun j hj => chk ⟨i, hi⟩ ⟨j, hj⟩)
theorem mul_assoc (a b c : Nat) (ha : a < 256) (hb : b < 256) (hc : c < 256) : mul (mul a b) c = mul a (mul b c) := by
  have chk : ∀ i j k : Fin 8, mul (mul (2 ^ i.val) (2 ^ j.val)) (2 ^ k.val) = mul (2 ^ i.val) (mul (2 ^ j.val) (2 ^ k.val)) := by decide +kernel
  have pw : ∀ n : Fin 8, 2 ^ n.val < 256 := by decide
  refine basis (fun a => ∀ b, b < 256 → ∀ c, c < 256 → mul (mul a b) c = mul a (mul b c)) (fun b _ c _ => by rw [zero_mul, zero_mul, zero_mul])
    (fun a a' h h' p p' b hb c hc => by rw [mul_xor_left a a' b h h', mul_xor_left _ _ c (mul_lt _ _ h) (mul_lt _ _ h'), mul_xor_left a a' _ h h', p b hb c hc, p' b hb c hc]) (fun i hi => ?_) a ha b hb c hc
  have hi' := pw ⟨i, hi⟩
  refine basis (fun b => ∀ c, c < 256 → mul (mul (2 ^ i) b) c = mul (2 ^ i) (mul b c)) (fun c _ => by rw [mul_zero, zero_mul, mul_zero])
    (fun b b' h h' p p' c hc => by rw [mul_xor_right, mul_xor_left _ _ c (mul_lt _ _ hi') (mul_lt _ _ hi'), mul_xor_left b b' c h h', mul_xor_right, p c hc, p' c hc]) (fun j hj => ?_)
  refine basis _ (by rw [mul_zero, mul_zero, mul_zero]) (fun c c' _ _ p p' => by rw [mul_xor_right, mul_xor_right, mul_xor_right, p, p']) (fun k hk => chk ⟨i, hi⟩ ⟨j, hj⟩ ⟨k, hk⟩)
theorem mul_inv (a : Nat) (ha : a < 256) (h0 : a ≠ 0) : mul a (inv a) = 1 := by
  have key : ∀ a : Fin 256, a.val ≠ 0 → mul a.val (inv a.val) = 1 := by decide +kernel
  exact key ⟨a, ha⟩ h0
theorem inv_lt (a : Nat) : inv a < 256 := pq_lt a 7
theorem no_zero (a b : Nat) (ha : a < 256) (hb : b < 256) (h : mul a b = 0) : a = 0 ∨ b = 0 := by
  by_cases h0 : b = 0
  · exact .inr h0
  · refine .inl ?_
    have h1 : mul (mul a b) (inv b) = a := by rw [mul_assoc a b _ ha hb (inv_lt b), mul_inv b hb h0, mul_one]
    rw [h, zero_mul] at h1
    exact h1.symm
theorem mul_ne (a b : Nat) (ha : a < 256) (hb : b < 256) (h : a ≠ 0) (h' : b ≠ 0) : mul a b ≠ 0 := fun e => by
  rcases no_zero a b ha hb e with h1 | h1
  · exact h h1
  · exact h' h1
end Go.Proofs.Ytgijeelednmmkaa.G
