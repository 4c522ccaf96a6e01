/-
  Interpolation: the divided differences and Lagrange's formula give the one polynomial through the points.
-/
import Derived.Test.YtgijeelednmmkaaGp
namespace Go.Proofs.Ytgijeelednmmkaa.Gq
open Go.Proofs.Ytgijeelednmmkaa.M Go.Proofs.Ytgijeelednmmkaa.Wa Go.Proofs.Ytgijeelednmmkaa.Wb Go.Proofs.Ytgijeelednmmkaa.Wc Go.Proofs.Ytgijeelednmmkaa.Wd Go.Proofs.Ytgijeelednmmkaa.We Go.Proofs.Ytgijeelednmmkaa.G Go.Proofs.Ytgijeelednmmkaa.Gp Go.Proofs.YtgijeelednmmkaaW.PrintWords

/-! ### One polynomial alone -/
theorem ev_evn (x : Nat) : ∀ l : List Int, ev x l = evn x (l.map Int.toNat)
  | [] => rfl
  | a :: t => by
    show mul (ev x t) x ^^^ a.toNat = mul (evn x (t.map Int.toNat)) x ^^^ a.toNat
    rw [ev_evn x t]
theorem bytes_head {a : Int} {t : List Int} (h : Bytes (a :: t)) : 0 ≤ a ∧ a ≤ 255 := h a List.mem_cons_self
def diff : List Int → List Int → List Nat
  | a :: t, b :: s => (a.toNat ^^^ b.toNat) :: diff t s
  | _, _ => []
theorem diff_length : ∀ p q : List Int, p.length = q.length → (diff p q).length = p.length
  | [], [], _ => rfl
  | a :: t, b :: s, h => by rw [diff, List.length_cons, List.length_cons, diff_length t s (by simpa using h)]
  | [], _ :: _, h => by cases h
  | _ :: _, [], h => by cases h
theorem diff_lt : ∀ p q : List Int, Bytes p → Bytes q → ∀ y ∈ diff p q, y < 256
  | a :: t, b :: s, hp, hq, y, hy => by
    rw [diff, List.mem_cons] at hy
    rcases hy with rfl | hy
    · have h1 := bytes_head hp
      have h2 := bytes_head hq
      exact xor_lt _ _ (by omega) (by omega)
    · exact diff_lt t s (bytes_tail hp) (bytes_tail hq) y hy
  | [], _, _, _, y, hy => by simp [diff] at hy
  | _ :: _, [], _, _, y, hy => by simp [diff] at hy
theorem diff_ev (x : Nat) : ∀ p q : List Int, p.length = q.length → Bytes p → Bytes q → evn x (diff p q) = ev x p ^^^ ev x q
  | [], [], _, _, _ => by show 0 = 0 ^^^ 0; simp
  | a :: t, b :: s, h, hp, hq => by
    show mul (evn x (diff t s)) x ^^^ (a.toNat ^^^ b.toNat) = (mul (ev x t) x ^^^ a.toNat) ^^^ (mul (ev x s) x ^^^ b.toNat)
    rw [diff_ev x t s (by simpa using h) (bytes_tail hp) (bytes_tail hq), mul_xor_left _ _ _ (ev_lt x t (bytes_tail hp)) (ev_lt x s (bytes_tail hq)), xor4]
  | [], _ :: _, h, _, _ => by cases h
  | _ :: _, [], h, _, _ => by cases h
theorem eq_of_diff : ∀ p q : List Int, p.length = q.length → Bytes p → Bytes q → (∀ y ∈ diff p q, y = 0) → p = q
  | [], [], _, _, _, _ => rfl
  | a :: t, b :: s, h, hp, hq, hz => by
    have h1 := bytes_head hp
    have h2 := bytes_head hq
    have h3 : a.toNat ^^^ b.toNat = 0 := hz _ (by rw [diff]; exact List.mem_cons_self)
    have h4 : a.toNat = b.toNat := by
      have h5 : (a.toNat ^^^ b.toNat) ^^^ b.toNat = b.toNat := by rw [h3, Nat.zero_xor]
      rwa [Nat.xor_assoc, Nat.xor_self, Nat.xor_zero] at h5
    have h6 : a = b := by omega
    rw [h6, eq_of_diff t s (by simpa using h) (bytes_tail hp) (bytes_tail hq) (fun y hy => hz y (by rw [diff]; exact List.mem_cons_of_mem _ hy))]
  | [], _ :: _, h, _, _, _ => by cases h
  | _ :: _, [], h, _, _, _ => by cases h
theorem unique (p q xs : List Int) (hp : Bytes p) (hq : Bytes q) (hx : Bytes xs) (hl : p.length = xs.length) (hl' : q.length = xs.length) (hnd : xs.Nodup) (h : ∀ x ∈ xs, ev x.toNat p = ev x.toNat q) : p = q := by
  refine eq_of_diff p q (by omega) hp hq ?_
  refine roots xs.length (diff p q) (xs.map Int.toNat) (by rw [diff_length _ _ (by omega)]; exact hl) (diff_lt p q hp hq) (by simp) ?_ ?_ ?_
  · rw [List.nodup_iff_pairwise_ne, List.pairwise_map]
    refine List.Pairwise.imp_of_mem ?_ (List.nodup_iff_pairwise_ne.1 hnd)
    intro a b ha hb hne e
    have h1 := hx a ha
    have h2 := hx b hb
    exact hne (by omega)
  · intro x hx'
    obtain ⟨a, ha, rfl⟩ := List.mem_map.1 hx'
    have := hx a ha
    omega
  · intro x hx'
    obtain ⟨a, ha, rfl⟩ := List.mem_map.1 hx'
    rw [diff_ev _ p q (by omega) hp hq, h a ha, Nat.xor_self]

/-! ### Different elements -/
theorem nb_mem {l : List Int} (k : Nat) (hk : k < l.length) : l[k].toNat = nb l k := by simp [nb, rd, hk]
theorem nb_of_mem {l : List Int} {x : Int} (hx : x ∈ l) : ∃ k, k < l.length ∧ x.toNat = nb l k := by
  obtain ⟨k, hk, rfl⟩ := List.mem_iff_getElem.1 hx
  exact ⟨k, hk, nb_mem k hk⟩
theorem nb_ne {l : List Int} (h : Bytes l) (hnd : l.Nodup) {i k : Nat} (hi : i < l.length) (hk : k < l.length) (hne : i ≠ k) : nb l i ≠ nb l k := by
  intro e
  have h1 := h _ (List.getElem_mem hi)
  have h2 := h _ (List.getElem_mem hk)
  rw [← nb_mem i hi, ← nb_mem k hk] at e
  have h3 : l[i] = l[k] := by omega
  have hpw := List.pairwise_iff_getElem.1 (List.nodup_iff_pairwise_ne.1 hnd)
  rcases Nat.lt_or_gt_of_ne hne with hlt | hlt
  · exact hpw i k hi hk hlt h3
  · exact hpw k i hk hi hlt h3.symm
theorem xor_ne {a b : Nat} (h : a ≠ b) : a ^^^ b ≠ 0 := fun e => by
  have h3 : (a ^^^ b) ^^^ b = b := by rw [e, Nat.zero_xor]
  rw [Nat.xor_assoc, Nat.xor_self, Nat.xor_zero] at h3
  exact h h3

/-! ### Divided differences -/
def ww (xs : List Int) (z : Nat) : Nat → Nat
  | 0 => 1
  | i + 1 => mul (ww xs z i) (z ^^^ nb xs i)
theorem ww_lt (xs : List Int) (z : Nat) : ∀ i, ww xs z i < 256
  | 0 => by unfold ww; omega
  | i + 1 => mul_lt _ _ (ww_lt xs z i)
theorem ww_zero (xs : List Int) (z j : Nat) (hz : z = nb xs j) : ∀ i, j < i → ww xs z i = 0
  | 0, h => by omega
  | i + 1, h => by
    rw [ww]
    by_cases e : j = i
    · subst e; rw [hz, Nat.xor_self, mul_zero]
    · rw [ww_zero xs z j hz i (by omega), zero_mul]
theorem ww_ne (xs : List Int) (hb : Bytes xs) (z : Nat) (hz : z < 256) : ∀ i, (∀ j, j < i → z ≠ nb xs j) → ww xs z i ≠ 0
  | 0, _ => by unfold ww; omega
  | i + 1, h => mul_ne _ _ (ww_lt xs z i) (xor_lt _ _ hz (nb_lt hb i)) (ww_ne xs hb z hz i (fun j hj => h j (by omega))) (xor_ne (h i (by omega)))
theorem vl_more {f : Nat → Nat} (z m : Nat) : ∀ n, m ≤ n → (∀ j, m ≤ j → f j = 0) → vl f z n = vl f z m
  | 0, h, _ => by obtain rfl : m = 0 := by omega
                  rfl
  | n + 1, h, hz => by
    by_cases e : m = n + 1
    · rw [e]
    · have h1 := vl_more z m n (by omega) hz
      unfold vl at h1 ⊢
      rw [sm, h1, hz n (by omega), zero_mul, Nat.xor_zero]
theorem vl_add {f g : Nat → Nat} (hf : ∀ j, f j < 256) (hg : ∀ j, g j < 256) (d : Nat) (hd : d < 256) (z n : Nat) : vl (fun j => f j ^^^ mul (g j) d) z n = vl f z n ^^^ mul (vl g z n) d := by
  unfold vl
  rw [sm_same n (g := fun j => mul (f j) (pw z j) ^^^ mul (mul (g j) (pw z j)) d) (fun j _ => term_law (f j) (g j) (pw z j) d (hf j) (hg j) (pw_lt z j) hd), sm_xor, sm_mul (f := fun j => mul (g j) (pw z j)) (fun j => mul_lt _ _ (hg j))]

theorem newton (xs ys : List Int) (hx : Bytes xs) (hy : Bytes ys) (hnd : xs.Nodup) : ∀ i, i ≤ xs.length →
    (∀ j, j < i → vl (cst xs ys xs.length i).1 (nb xs j) xs.length = nb ys j) ∧ ∀ z, z < 256 → vl (cst xs ys xs.length i).2 z (i + 1) = ww xs z i
  | 0, _ => by
    refine ⟨fun j hj => by omega, fun z hz => ?_⟩
    show 0 ^^^ mul 1 1 = 1
    rw [mul_one, Nat.zero_xor]
  | i + 1, h => by
    obtain ⟨ih1, ih2⟩ := newton xs ys hx hy hnd i (by omega)
    obtain ⟨b1, b2, b3⟩ := cst_lt (ys := ys) xs.length hx i
    have hxi := nb_lt hx i
    have hyi := nb_lt hy i
    have hw : ww xs (nb xs i) i ≠ 0 := ww_ne xs hx _ hxi i (fun j hj => nb_ne hx hnd (by omega) (by omega) (by omega))
    have hwl := ww_lt xs (nb xs i) i
    have e1 : ev (nb xs i) (L (cst xs ys xs.length i).1 xs.length) = vl (cst xs ys xs.length i).1 (nb xs i) xs.length := ev_L b1 _ hxi _
    have e2 : ev (nb xs i) (L (cst xs ys xs.length i).2 (i + 1)) = ww xs (nb xs i) i := by rw [ev_L b2 _ hxi, ih2 _ hxi]
    have hd : dd xs ys xs.length i (cst xs ys xs.length i) = mul (nb ys i ^^^ vl (cst xs ys xs.length i).1 (nb xs i) xs.length) (inv (ww xs (nb xs i) i)) := by
      rw [dd, e1, e2, dvs, if_neg hw]
    have hv := vl_lt b1 (nb xs i) xs.length
    have hdl : dd xs ys xs.length i (cst xs ys xs.length i) < 256 := by rw [hd]; exact mul_lt _ _ (xor_lt _ _ hyi hv)
    have hval : ∀ z, z < 256 → vl (cst xs ys xs.length (i + 1)).1 z xs.length = vl (cst xs ys xs.length i).1 z xs.length ^^^ mul (ww xs z i) (dd xs ys xs.length i (cst xs ys xs.length i)) := by
      intro z hz
      rw [← ih2 z hz, ← vl_more z (i + 1) xs.length h (fun j hj => b3 j (by omega)), ← vl_add b1 b2 _ hdl]
      refine vl_same z _ (fun j _ => ?_)
      show (if j ≤ i then _ else _) = _
      by_cases hj : j ≤ i
      · rw [if_pos hj]
      · rw [if_neg hj, b3 j (by omega), zero_mul, Nat.xor_zero]
    refine ⟨fun j hj => ?_, fun z hz => ?_⟩
    · rw [hval _ (nb_lt hx j)]
      by_cases e : j = i
      · subst e
        rw [hd, mul_comm (ww xs (nb xs j) j) _ hwl (mul_lt _ _ (xor_lt _ _ hyi hv)), mul_assoc _ _ _ (xor_lt _ _ hyi hv) (inv_lt _) hwl, mul_comm (inv _) _ (inv_lt _) hwl, mul_inv _ hwl hw, mul_one]
        rw [Nat.xor_comm (nb ys j), ← Nat.xor_assoc, Nat.xor_self, Nat.zero_xor]
      · rw [ww_zero xs _ j rfl i (by omega), zero_mul, Nat.xor_zero, ih1 j (by omega)]
    · rw [ww, ← ih2 z hz, ← vl_times b2 z (nb xs i) hz hxi (i + 1) (b3 _ (by omega))]
      refine vl_same z _ (fun j hj => ?_)
      show (if j = 0 then _ else if j ≤ i + 1 then _ else _) = _
      by_cases hj0 : j = 0
      · rw [if_pos hj0, if_pos hj0]
      · rw [if_neg hj0, if_neg hj0, if_pos (by omega)]
theorem coef_length (xs ys : List Int) : (coef xs ys).length = xs.length := by rw [coef, L_length]
theorem coef_bytes (xs ys : List Int) (hx : Bytes xs) : Bytes (coef xs ys) := L_bytes _ (cst_lt (ys := ys) xs.length hx xs.length).1
theorem coef_value (xs ys : List Int) (hx : Bytes xs) (hy : Bytes ys) (hnd : xs.Nodup) (j : Nat) (hj : j < xs.length) : ev (nb xs j) (coef xs ys) = nb ys j := by
  rw [coef, ev_L (cst_lt (ys := ys) xs.length hx xs.length).1 _ (nb_lt hx j)]
  exact (newton xs ys hx hy hnd xs.length (Nat.le_refl _)).1 j hj
/-- What has the points' values is the polynomial of the divided differences. -/
theorem coef_unique (xs ys p : List Int) (hx : Bytes xs) (hy : Bytes ys) (hnd : xs.Nodup) (hp : Bytes p) (hl : p.length = xs.length) (h : ∀ j, j < xs.length → ev (nb xs j) p = nb ys j) : coef xs ys = p := by
  refine unique _ _ xs (coef_bytes xs ys hx) hp hx (coef_length xs ys) hl hnd (fun x hxm => ?_)
  obtain ⟨k, hk, e⟩ := nb_of_mem hxm
  rw [e, coef_value xs ys hx hy hnd k hk, h k hk]
end Go.Proofs.Ytgijeelednmmkaa.Gq
