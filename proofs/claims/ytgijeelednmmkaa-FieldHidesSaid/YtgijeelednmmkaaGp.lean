/-
  Polynomials over the field: sums, products, roots; the interpolating polynomial is one alone.
-/
import Derived.Test.YtgijeelednmmkaaG
import Derived.Test.YtgijeelednmmkaaWe
namespace Go.Proofs.Ytgijeelednmmkaa.Gp
open Go.Proofs.Ytgijeelednmmkaa.M Go.Proofs.Ytgijeelednmmkaa.Wa Go.Proofs.Ytgijeelednmmkaa.Wb Go.Proofs.Ytgijeelednmmkaa.Wc Go.Proofs.Ytgijeelednmmkaa.Wd Go.Proofs.Ytgijeelednmmkaa.We Go.Proofs.Ytgijeelednmmkaa.G

/-- A sum. -/
def sm (f : Nat → Nat) : Nat → Nat
  | 0 => 0
  | n + 1 => sm f n ^^^ f n
theorem sm_lt {f : Nat → Nat} (h : ∀ j, f j < 256) : ∀ n, sm f n < 256
  | 0 => by unfold sm; omega
  | n + 1 => xor_lt _ _ (sm_lt h n) (h n)
theorem sm_same {f g : Nat → Nat} : ∀ n, (∀ j, j < n → f j = g j) → sm f n = sm g n
  | 0, _ => rfl
  | n + 1, h => by rw [sm, sm, sm_same n (fun j hj => h j (by omega)), h n (by omega)]
theorem sm_xor (f g : Nat → Nat) : ∀ n, sm (fun j => f j ^^^ g j) n = sm f n ^^^ sm g n
  | 0 => by simp [sm]
  | n + 1 => by rw [sm, sm, sm, sm_xor f g n, xor4]
theorem sm_mul {f : Nat → Nat} (h : ∀ j, f j < 256) (c : Nat) : ∀ n, sm (fun j => mul (f j) c) n = mul (sm f n) c
  | 0 => by rw [sm, sm, zero_mul]
  | n + 1 => by rw [sm, sm, sm_mul h c n, mul_xor_left _ _ _ (sm_lt h n) (h n)]
theorem sm_first (f : Nat → Nat) : ∀ n, sm f (n + 1) = f 0 ^^^ sm (fun j => f (j + 1)) n
  | 0 => by rw [sm, sm, sm, Nat.zero_xor, Nat.xor_zero]
  | n + 1 => by rw [sm, sm_first f n, sm, Nat.xor_assoc]
theorem sm_nought (n : Nat) : sm (fun _ => 0) n = 0 := by
  induction n with
  | zero => rfl
  | succ n ih => rw [sm, ih]; rfl
theorem sm_one {f : Nat → Nat} {i : Nat} : ∀ n, i < n → (∀ j, j < n → j ≠ i → f j = 0) → sm f n = f i
  | 0, h, _ => by omega
  | n + 1, h, hz => by
    rw [sm]
    by_cases e : i = n
    · subst e
      rw [sm_same i (g := fun _ => 0) (fun j hj => hz j (by omega) (by omega)), sm_nought, Nat.zero_xor]
    · rw [sm_one n (by omega) (fun j hj hne => hz j (by omega) hne), hz n (by omega) (fun e2 => e e2.symm), Nat.xor_zero]

/-- A power. -/
def pw (a : Nat) : Nat → Nat
  | 0 => 1
  | n + 1 => mul (pw a n) a
theorem pw_lt (a : Nat) : ∀ n, pw a n < 256
  | 0 => by unfold pw; omega
  | n + 1 => mul_lt _ _ (pw_lt a n)
theorem one_mul (a : Nat) (ha : a < 256) : mul 1 a = a := by rw [mul_comm 1 a (by omega) ha, mul_one]

/-- The value of the polynomial with these coefficients, the first n. -/
def vl (f : Nat → Nat) (x n : Nat) : Nat := sm (fun j => mul (f j) (pw x j)) n
theorem vl_lt {f : Nat → Nat} (h : ∀ j, f j < 256) (x n : Nat) : vl f x n < 256 := sm_lt (fun j => mul_lt _ _ (h j)) n
theorem vl_same {f g : Nat → Nat} (x n : Nat) (h : ∀ j, j < n → f j = g j) : vl f x n = vl g x n := sm_same n (fun j hj => by rw [h j hj])
theorem vl_first {f : Nat → Nat} (h : ∀ j, f j < 256) (x : Nat) (hx : x < 256) (n : Nat) : vl f x (n + 1) = mul (vl (fun j => f (j + 1)) x n) x ^^^ f 0 := by
  unfold vl
  rw [sm_first, Nat.xor_comm, ← sm_mul (fun j => mul_lt _ _ (h _)) x]
  congr 1
  · exact sm_same n (fun j _ => by rw [pw, mul_assoc _ _ _ (h _) (pw_lt x j) hx])
  · rw [pw, mul_one]
theorem ev_vl {f : Nat → Nat} (h : ∀ j, f j < 256) (x : Nat) (hx : x < 256) : ∀ (n k : Nat), ev x ((L f (n + k)).drop k) = vl (fun j => f (j + k)) x n
  | 0, k => by
    rw [List.drop_eq_nil_of_le (by rw [L_length]; omega)]; rfl
  | n + 1, k => by
    have hlt : k < (L f (n + 1 + k)).length := by rw [L_length]; omega
    rw [List.drop_eq_getElem_cons hlt, ev, vl_first (fun j => h _) x hx n]
    have h2 := ev_vl h x hx n (k + 1)
    rw [show n + (k + 1) = n + 1 + k by omega] at h2
    rw [h2]
    have h3 : (L f (n + 1 + k))[k].toNat = f (0 + k) := by simp [L]
    rw [h3]
    congr 3
    funext j
    congr 1
    omega
theorem ev_L {f : Nat → Nat} (h : ∀ j, f j < 256) (x : Nat) (hx : x < 256) (n : Nat) : ev x (L f n) = vl f x n := ev_vl h x hx n 0

theorem term_law (p q y a : Nat) (hp : p < 256) (hq : q < 256) (hy : y < 256) (ha : a < 256) : mul (p ^^^ mul q a) y = mul p y ^^^ mul (mul q y) a := by
  have h1 := mul_xor_left p (mul q a) y hp (mul_lt q a hq)
  have h2 := mul_assoc q a y hq ha hy
  have h3 := mul_comm a y ha hy
  have h4 := mul_assoc q y a hq hy ha
  rw [h1, h2, h3, h4]
theorem last_law (v u y a c : Nat) (hv : v < 256) (hu : u < 256) (hy : y < 256) (ha : a < 256) (hc : c < 256) (h : mul u y ^^^ c = v) : mul (v ^^^ mul u a) y ^^^ mul c a = mul v (y ^^^ a) := by
  have h1 := mul_xor_left v (mul u a) y hv (mul_lt u a hu)
  have h2 := mul_assoc u a y hu ha hy
  have h3 := mul_comm a y ha hy
  have h4 := mul_assoc u y a hu hy ha
  have h5 := mul_xor_left (mul u y) c a (mul_lt u y hu) hc
  have h6 := mul_xor_right v y a
  rw [h] at h5
  rw [h1, h2, h3, ← h4, h6, h5, Nat.xor_assoc]

/-- The product of a polynomial and z + a. -/
theorem vl_times {f : Nat → Nat} (h : ∀ j, f j < 256) (x a : Nat) (hx : x < 256) (ha : a < 256) (n : Nat) (hz : f n = 0) :
    vl (fun j => if j = 0 then mul (f 0) a else f (j - 1) ^^^ mul (f j) a) x (n + 1) = mul (vl f x n) (x ^^^ a) := by
  have hg : ∀ j, (if j = 0 then mul (f 0) a else f (j - 1) ^^^ mul (f j) a) < 256 := fun j => by
    split
    · exact mul_lt _ _ (h 0)
    · exact xor_lt _ _ (h _) (mul_lt _ _ (h j))
  rw [vl_first hg x hx n]
  have e1 : vl (fun j => if j + 1 = 0 then mul (f 0) a else f (j + 1 - 1) ^^^ mul (f (j + 1)) a) x n = vl f x n ^^^ mul (vl (fun j => f (j + 1)) x n) a := by
    rw [vl_same x n (g := fun j => f j ^^^ mul (f (j + 1)) a) (fun j _ => by rw [if_neg (by omega), Nat.add_sub_cancel])]
    unfold vl
    rw [sm_same n (g := fun j => mul (f j) (pw x j) ^^^ mul (mul (f (j + 1)) (pw x j)) a) (fun j _ => term_law (f j) (f (j + 1)) (pw x j) a (h j) (h _) (pw_lt x j) ha), sm_xor, sm_mul (f := fun j => mul (f (j + 1)) (pw x j)) (fun j => mul_lt _ _ (h _))]
  have e2 : mul (vl (fun j => f (j + 1)) x n) x ^^^ f 0 = vl f x n := by
    rw [← vl_first h x hx n]
    unfold vl
    rw [sm, hz, zero_mul, Nat.xor_zero]
  have l1 := vl_lt h x n
  have l2 := vl_lt (f := fun j => f (j + 1)) (fun j => h _) x n
  rw [e1, if_pos rfl]
  exact last_law _ _ x a (f 0) l1 l2 hx ha (h 0) e2

/-- The quotient by z + a. -/
def quo (a : Nat) : List Nat → List Nat
  | [] => []
  | [_] => []
  | _ :: c :: t => (evn a (c :: t)) :: quo a (c :: t)
where evn (x : Nat) : List Nat → Nat
  | [] => 0
  | c :: t => mul (evn x t) x ^^^ c
abbrev evn := quo.evn
theorem evn_lt (x : Nat) : ∀ l : List Nat, (∀ y ∈ l, y < 256) → evn x l < 256
  | [], _ => by show 0 < 256; omega
  | c :: t, h => xor_lt _ _ (mul_lt _ _ (evn_lt x t (fun y hy => h y (List.mem_cons_of_mem _ hy)))) (h c List.mem_cons_self)
theorem quo_length (a : Nat) : ∀ l : List Nat, (quo a l).length = l.length - 1
  | [] => rfl
  | [_] => rfl
  | _ :: c :: t => by rw [quo, List.length_cons, quo_length a (c :: t)]; simp
theorem quo_lt (a : Nat) : ∀ l : List Nat, (∀ y ∈ l, y < 256) → ∀ y ∈ quo a l, y < 256
  | [], _, y, hy => by simp [quo] at hy
  | [_], _, y, hy => by simp [quo] at hy
  | _ :: c :: t, h, y, hy => by
    rw [quo, List.mem_cons] at hy
    rcases hy with rfl | hy
    · exact evn_lt a _ (fun z hz => h z (List.mem_cons_of_mem _ hz))
    · exact quo_lt a (c :: t) (fun z hz => h z (List.mem_cons_of_mem _ hz)) y hy
theorem quo_ev (a x : Nat) (ha : a < 256) (hx : x < 256) : ∀ l : List Nat, (∀ y ∈ l, y < 256) → evn x l = mul (evn x (quo a l)) (x ^^^ a) ^^^ evn a l
  | [], _ => by show 0 = mul 0 _ ^^^ 0; rw [zero_mul]; rfl
  | [c], _ => by
    show mul 0 x ^^^ c = mul 0 _ ^^^ (mul 0 a ^^^ c)
    rw [zero_mul, zero_mul, zero_mul]; simp
  | d :: c :: t, h => by
    have ht : ∀ y ∈ c :: t, y < 256 := fun y hy => h y (List.mem_cons_of_mem _ hy)
    have ih := quo_ev a x ha hx (c :: t) ht
    have l1 := evn_lt x _ (quo_lt a _ ht)
    have l2 := evn_lt a _ ht
    have l3 := xor_lt x a hx ha
    show mul (evn x (c :: t)) x ^^^ d = mul (mul (evn x (quo a (c :: t))) x ^^^ evn a (c :: t)) (x ^^^ a) ^^^ (mul (evn a (c :: t)) a ^^^ d)
    rw [ih]
    generalize evn x (quo a (c :: t)) = q at *
    generalize evn a (c :: t) = r at *
    rw [mul_xor_left _ _ _ (mul_lt _ _ l1) l2, mul_xor_left _ _ _ (mul_lt _ _ l1) l2, mul_assoc q (x ^^^ a) x l1 l3 hx, mul_comm (x ^^^ a) x l3 hx, ← mul_assoc q x (x ^^^ a) l1 hx l3, mul_xor_right r x a]
    rw [Nat.xor_assoc, Nat.xor_assoc, Nat.xor_assoc]
    congr 2
    rw [← Nat.xor_assoc (mul r a), Nat.xor_self, Nat.zero_xor]
theorem quo_zero (a : Nat) : ∀ l : List Nat, (∀ y ∈ quo a l, y = 0) → evn a l = 0 → ∀ y ∈ l, y = 0
  | [], _, _, y, hy => by cases hy
  | [c], _, h, y, hy => by
    have h2 : mul 0 a ^^^ c = 0 := h
    rw [zero_mul, Nat.zero_xor] at h2
    rw [List.mem_singleton.1 hy, h2]
  | d :: c :: t, hq, h, y, hy => by
    have h1 : evn a (c :: t) = 0 := hq _ (by rw [quo]; exact List.mem_cons_self)
    have h2 := quo_zero a (c :: t) (fun z hz => hq z (by rw [quo]; exact List.mem_cons_of_mem _ hz)) h1
    have h3 : mul (evn a (c :: t)) a ^^^ d = 0 := h
    rw [h1, zero_mul, Nat.zero_xor] at h3
    rcases List.mem_cons.1 hy with rfl | hy
    · exact h3
    · exact h2 y hy
/-- A polynomial with as many roots as coefficients is 0. -/
theorem roots : ∀ (n : Nat) (l xs : List Nat), l.length = n → (∀ y ∈ l, y < 256) → xs.length = n → xs.Nodup → (∀ x ∈ xs, x < 256) → (∀ x ∈ xs, evn x l = 0) → ∀ y ∈ l, y = 0
  | 0, l, _, hl, _, _, _, _, _, y, hy => by
    obtain rfl : l = [] := List.eq_nil_of_length_eq_zero hl
    cases hy
  | n + 1, l, xs, hl, hb, hxl, hnd, hxb, hr, y, hy => by
    match xs, hxl, hnd, hxb, hr with
    | a :: t, hxl, hnd, hxb, hr =>
      have ha := hxb a List.mem_cons_self
      have h0 := hr a List.mem_cons_self
      rw [List.nodup_cons] at hnd
      refine quo_zero a l (roots n (quo a l) t (by rw [quo_length]; omega) (quo_lt a l hb) (by simpa using hxl) hnd.2 (fun x hx => hxb x (List.mem_cons_of_mem _ hx)) (fun x hx => ?_)) h0 y hy
      have hx' := hxb x (List.mem_cons_of_mem _ hx)
      have h1 := quo_ev a x ha hx' l hb
      rw [hr x (List.mem_cons_of_mem _ hx), h0, Nat.xor_zero] at h1
      rcases no_zero _ _ (evn_lt x _ (quo_lt a l hb)) (xor_lt x a hx' ha) h1.symm with h2 | h2
      · exact h2
      · have e : x = a := by
          have h3 : (x ^^^ a) ^^^ a = a := by rw [h2, Nat.zero_xor]
          rwa [Nat.xor_assoc, Nat.xor_self, Nat.xor_zero] at h3
        subst e
        exact absurd hx hnd.1
end Go.Proofs.Ytgijeelednmmkaa.Gp
