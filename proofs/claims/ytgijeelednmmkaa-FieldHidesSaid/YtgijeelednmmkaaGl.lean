/-
  Lagrange's formula: the weights, and what they sum up to.
-/
import Derived.Test.YtgijeelednmmkaaGq
namespace Go.Proofs.Ytgijeelednmmkaa.Gl
open Go.Proofs.Ytgijeelednmmkaa.M Go.Proofs.Ytgijeelednmmkaa.Wa Go.Proofs.Ytgijeelednmmkaa.Wb Go.Proofs.Ytgijeelednmmkaa.Wc Go.Proofs.Ytgijeelednmmkaa.Wd Go.Proofs.Ytgijeelednmmkaa.We Go.Proofs.Ytgijeelednmmkaa.G Go.Proofs.Ytgijeelednmmkaa.Gp Go.Proofs.Ytgijeelednmmkaa.Gq

theorem prod_zero (l : List Int) (but x j : Nat) (hx : x = nb l j) (hj : j ≠ but) : ∀ n, j < n → prodTo l but x n = 0
  | 0, h => by omega
  | n + 1, h => by
    rw [prodTo]
    by_cases e : j = n
    · subst e; rw [if_neg hj, hx, Nat.xor_self, mul_zero]
    · have ih := prod_zero l but x j hx hj n (by omega)
      split
      · exact ih
      · rw [ih, zero_mul]
theorem prod_ne (l : List Int) (hb : Bytes l) (but x : Nat) (hx : x < 256) : ∀ n, (∀ j, j < n → j ≠ but → x ≠ nb l j) → prodTo l but x n ≠ 0
  | 0, _ => by unfold prodTo; omega
  | n + 1, h => by
    have ih := prod_ne l hb but x hx n (fun j hj => h j (by omega))
    rw [prodTo]
    split
    · exact ih
    · rename_i e
      exact mul_ne _ _ (prodTo_lt _ _ _ _) (xor_lt _ _ hx (nb_lt hb n)) ih (xor_ne (h n (by omega) (fun e2 => e e2)))
/-- The denominators are not 0. -/
theorem down_ne (l : List Int) (hb : Bytes l) (hnd : l.Nodup) (i : Nat) (hi : i < l.length) : prodTo l i (nb l i) l.length ≠ 0 :=
  prod_ne l hb i _ (nb_lt hb i) _ (fun _ hj hne => nb_ne hb hnd hi hj (fun e => hne e.symm))
theorem wt_eq (l : List Int) (hb : Bytes l) (hnd : l.Nodup) (x i : Nat) (hi : i < l.length) : wt l x i = mul (prodTo l i x l.length) (inv (prodTo l i (nb l i) l.length)) := by
  rw [wt, dvs, if_neg (down_ne l hb hnd i hi)]
/-- A weight at the elements themselves. -/
theorem wt_at (l : List Int) (hb : Bytes l) (hnd : l.Nodup) (k i : Nat) (hk : k < l.length) (hi : i < l.length) : wt l (nb l k) i = if i = k then 1 else 0 := by
  rw [wt_eq l hb hnd _ i hi]
  by_cases e : i = k
  · subst e
    rw [if_pos rfl, mul_inv _ (prodTo_lt _ _ _ _) (down_ne l hb hnd i hi)]
  · rw [if_neg e, prod_zero l i _ k rfl (fun e2 => e e2.symm) _ hk, zero_mul]
theorem wts_nb (l : List Int) (x i : Nat) (hi : i < l.length) : nb (wts l x) i = wt l x i := by
  simp [nb, Go.Proofs.YtgijeelednmmkaaW.PrintWords.rd, wts, hi]
theorem sumTo_sm (ws ys : List Int) : ∀ n, sumTo ws ys n = sm (fun i => mul (nb ws i) (nb ys i)) n
  | 0 => rfl
  | n + 1 => by rw [sumTo, sm, sumTo_sm ws ys n]
theorem sum_wt (l ys : List Int) (x : Nat) : sumTo (wts l x) ys l.length = sm (fun i => mul (wt l x i) (nb ys i)) l.length := by
  rw [sumTo_sm]
  exact sm_same _ (fun i hi => by rw [wts_nb l x i hi])
/-- At an element the sum is its value. -/
theorem sum_at (l ys : List Int) (hb : Bytes l) (hy : Bytes ys) (hnd : l.Nodup) (k : Nat) (hk : k < l.length) : sumTo (wts l (nb l k)) ys l.length = nb ys k := by
  rw [sum_wt, sm_one (i := k) _ hk (fun j hj hne => by rw [wt_at l hb hnd k j hk hj, if_neg hne, zero_mul]), wt_at l hb hnd k k hk hk, if_pos rfl, one_mul _ (nb_lt hy k)]

/-! The polynomials of Lagrange's formula. -/
def tm (f : Nat → Nat) (a : Nat) : Nat → Nat := fun j => if j = 0 then mul (f 0) a else f (j - 1) ^^^ mul (f j) a
def pc (l : List Int) (but : Nat) : Nat → Nat → Nat
  | 0 => fun j => if j = 0 then 1 else 0
  | k + 1 => if k = but then pc l but k else tm (pc l but k) (nb l k)
/-- How many factors. -/
def fac (but : Nat) : Nat → Nat
  | 0 => 0
  | k + 1 => if k = but then fac but k else fac but k + 1
theorem tm_lt {f : Nat → Nat} (h : ∀ j, f j < 256) (a j : Nat) : tm f a j < 256 := by
  unfold tm
  split
  · exact mul_lt _ _ (h 0)
  · exact xor_lt _ _ (h _) (mul_lt _ _ (h j))
theorem pc_lt (l : List Int) (but : Nat) : ∀ k j, pc l but k j < 256
  | 0, j => by unfold pc; split <;> omega
  | k + 1, j => by
    unfold pc
    split
    · exact pc_lt l but k j
    · exact tm_lt (pc_lt l but k) _ j
theorem pc_high (l : List Int) (but : Nat) : ∀ k j, fac but k < j → pc l but k j = 0
  | 0, j, h => by unfold pc; unfold fac at h; rw [if_neg (by omega)]
  | k + 1, j, h => by
    unfold fac at h
    unfold pc
    by_cases e : k = but
    · rw [if_pos e] at h ⊢
      exact pc_high l but k j h
    · rw [if_neg e] at h ⊢
      unfold tm
      rw [if_neg (by omega), pc_high l but k (j - 1) (by omega), pc_high l but k j (by omega), zero_mul, Nat.xor_zero]
theorem fac_le (but : Nat) : ∀ k, fac but k ≤ k ∧ (but < k → fac but k < k)
  | 0 => ⟨by unfold fac; omega, fun h => by omega⟩
  | k + 1 => by
    obtain ⟨h1, h2⟩ := fac_le but k
    unfold fac
    split
    · exact ⟨by omega, fun _ => by omega⟩
    · exact ⟨by omega, fun h => by have := h2 (by omega); omega⟩
theorem pc_value (l : List Int) (hb : Bytes l) (but z : Nat) (hz : z < 256) : ∀ k m, fac but k < m → vl (pc l but k) z m = prodTo l but z k
  | 0, m, h => by
    rw [vl_more z 1 m (by omega) (fun j hj => pc_high l but 0 j (by unfold fac; omega))]
    show 0 ^^^ mul 1 1 = 1
    rw [mul_one, Nat.zero_xor]
  | k + 1, m, h => by
    unfold fac at h
    unfold pc prodTo
    by_cases e : k = but
    · rw [if_pos e] at h ⊢
      rw [if_pos e]
      exact pc_value l hb but z hz k m h
    · rw [if_neg e] at h ⊢
      rw [if_neg e]
      obtain ⟨m, rfl⟩ : ∃ q, m = q + 1 := ⟨m - 1, by omega⟩
      rw [← pc_value l hb but z hz k m (by omega)]
      exact vl_times (pc_lt l but k) z (nb l k) hz (nb_lt hb k) m (pc_high l but k m (by omega))

/-- Sums of sums. -/
theorem sm_swap (f : Nat → Nat → Nat) : ∀ n m, sm (fun i => sm (f i) m) n = sm (fun j => sm (fun i => f i j) n) m
  | 0, m => by
    show 0 = sm (fun _ => 0) m
    rw [sm_nought]
  | n + 1, m => by
    rw [sm, sm_swap f n m, ← sm_xor]
    rfl
/-- The factor of a point. -/
def fq (l ys : List Int) (i : Nat) : Nat := dvs (nb ys i) (prodTo l i (nb l i) l.length)
/-- The coefficients. -/
def lg (l ys : List Int) (j : Nat) : Nat := sm (fun i => mul (pc l i l.length j) (fq l ys i)) l.length
theorem fq_lt (l ys : List Int) (hy : Bytes ys) (i : Nat) : fq l ys i < 256 := dvs_lt _ _ (nb_lt hy i)
theorem lg_lt (l ys : List Int) (j : Nat) : lg l ys j < 256 := sm_lt (fun i => mul_lt _ _ (pc_lt l i l.length j)) _
theorem three (a b c : Nat) (ha : a < 256) (hb : b < 256) (hc : c < 256) : mul (mul a b) c = mul (mul a c) b := by
  have h1 := mul_assoc a b c ha hb hc
  have h2 := mul_comm b c hb hc
  have h3 := mul_assoc a c b ha hc hb
  rw [h1, h2, h3]
theorem lg_value (l ys : List Int) (hb : Bytes l) (hy : Bytes ys) (hnd : l.Nodup) (z : Nat) (hz : z < 256) : vl (lg l ys) z l.length = sumTo (wts l z) ys l.length := by
  rw [sum_wt]
  unfold vl
  have e1 : ∀ j, mul (lg l ys j) (pw z j) = sm (fun i => mul (mul (pc l i l.length j) (fq l ys i)) (pw z j)) l.length := fun j => by
    unfold lg
    exact (sm_mul (f := fun i => mul (pc l i l.length j) (fq l ys i)) (fun i => mul_lt _ _ (pc_lt l i l.length j)) (pw z j) l.length).symm
  rw [sm_same l.length (fun j _ => e1 j), ← sm_swap (fun i j => mul (mul (pc l i l.length j) (fq l ys i)) (pw z j))]
  refine sm_same _ (fun i hi => ?_)
  have e2 : ∀ j, mul (mul (pc l i l.length j) (fq l ys i)) (pw z j) = mul (mul (pc l i l.length j) (pw z j)) (fq l ys i) := fun j => three _ _ _ (pc_lt l i l.length j) (fq_lt l ys hy i) (pw_lt z j)
  have hyi := nb_lt hy i
  have hup := prodTo_lt l i z l.length
  have hiv := inv_lt (prodTo l i (nb l i) l.length)
  rw [sm_same l.length (fun j _ => e2 j), sm_mul (f := fun j => mul (pc l i l.length j) (pw z j)) (fun j => mul_lt _ _ (pc_lt l i l.length j))]
  have e3 : sm (fun j => mul (pc l i l.length j) (pw z j)) l.length = prodTo l i z l.length := pc_value l hb i z hz l.length l.length ((fac_le i l.length).2 hi)
  rw [e3, wt_eq l hb hnd z i hi, fq, dvs, if_neg (down_ne l hb hnd i hi), three _ _ _ hup hiv hyi, mul_assoc _ _ _ hup hyi hiv]
/-- Lagrange's coefficients are those of the divided differences. -/
theorem coef_lg (l ys : List Int) (hb : Bytes l) (hy : Bytes ys) (hnd : l.Nodup) : coef l ys = L (lg l ys) l.length :=
  coef_unique l ys _ hb hy hnd (L_bytes _ (lg_lt l ys)) (L_length _ _) (fun j hj => by
    rw [ev_L (lg_lt l ys) _ (nb_lt hb j), lg_value l ys hb hy hnd _ (nb_lt hb j), sum_at l ys hb hy hnd j hj])
/-- The sum of the weighted values is the value of the interpolating polynomial. -/
theorem sum_coef (l ys : List Int) (hb : Bytes l) (hy : Bytes ys) (hnd : l.Nodup) (z : Nat) (hz : z < 256) : sumTo (wts l z) ys l.length = ev z (coef l ys) := by
  rw [coef_lg l ys hb hy hnd, ev_L (lg_lt l ys) z hz, lg_value l ys hb hy hnd z hz]
end Go.Proofs.Ytgijeelednmmkaa.Gl
