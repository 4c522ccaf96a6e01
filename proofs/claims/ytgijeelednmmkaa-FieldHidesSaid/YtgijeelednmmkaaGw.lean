/-
  The weights add up to 1, and do not depend on the order of the other elements.
-/
import Derived.Test.YtgijeelednmmkaaGl
namespace Go.Proofs.Ytgijeelednmmkaa.Gw
open Go.Proofs.Ytgijeelednmmkaa.M Go.Proofs.Ytgijeelednmmkaa.Wa Go.Proofs.Ytgijeelednmmkaa.Wb Go.Proofs.Ytgijeelednmmkaa.Wc Go.Proofs.Ytgijeelednmmkaa.Wd Go.Proofs.Ytgijeelednmmkaa.We Go.Proofs.Ytgijeelednmmkaa.G Go.Proofs.Ytgijeelednmmkaa.Gp Go.Proofs.Ytgijeelednmmkaa.Gq Go.Proofs.Ytgijeelednmmkaa.Gl

theorem ev_noughts (x : Nat) : ∀ n, ev x (List.replicate n 0) = 0
  | 0 => rfl
  | n + 1 => by
    show mul (ev x (List.replicate n 0)) x ^^^ 0 = 0
    rw [ev_noughts x n, zero_mul]; rfl
theorem ev_const (x n : Nat) : ev x (1 :: List.replicate n 0) = 1 := by
  show mul (ev x (List.replicate n 0)) x ^^^ 1 = 1
  rw [ev_noughts, zero_mul]; rfl
theorem weights_sum (l : List Int) (hb : Bytes l) (hd : dist l = true) (x : Nat) (hx : x < 256) : sm (wt l x) l.length = 1 := by
  have hnd : l.Nodup := by simp [dist] at hd; exact hd.1.1
  have h1 : 1 ≤ l.length := by simp [dist] at hd; exact hd.1.2
  have hy : Bytes (List.replicate l.length 1) := fun y hy => by have := List.eq_of_mem_replicate hy; omega
  have hp : Bytes (1 :: List.replicate (l.length - 1) 0) := fun y hy => by
    rcases List.mem_cons.1 hy with rfl | hy
    · omega
    · have := List.eq_of_mem_replicate hy; omega
  have hnb : ∀ j, j < l.length → nb (List.replicate l.length 1) j = 1 := fun j hj => by simp [nb, Go.Proofs.YtgijeelednmmkaaW.PrintWords.rd, hj]
  have h2 := sum_coef l (List.replicate l.length 1) hb hy hnd x hx
  rw [coef_unique l _ _ hb hy hnd hp (by simp; omega) (fun j hj => by rw [ev_const, hnb j hj]), ev_const, sum_wt] at h2
  rw [← h2]
  exact sm_same _ (fun i hi => by rw [hnb i hi, mul_one])

/-- The product of x + y for all elements y. -/
def pl (x : Nat) : List Int → Nat
  | [] => 1
  | a :: t => mul (x ^^^ a.toNat) (pl x t)
theorem pl_lt (x : Nat) (hx : x < 256) : ∀ l : List Int, Bytes l → pl x l < 256
  | [], _ => by unfold pl; omega
  | a :: t, h => mul_lt _ _ (xor_lt _ _ hx (by have := bytes_head h; omega))
theorem pl_append (x : Nat) (hx : x < 256) : ∀ s t : List Int, Bytes s → Bytes t → pl x (s ++ t) = mul (pl x s) (pl x t)
  | [], t, _, ht => by rw [List.nil_append, pl, one_mul _ (pl_lt x hx t ht)]
  | a :: s, t, hs, ht => by
    have h1 := bytes_head hs
    rw [List.cons_append, pl, pl, pl_append x hx s t (bytes_tail hs) ht, mul_assoc _ _ _ (xor_lt _ _ hx (by omega)) (pl_lt x hx s (bytes_tail hs)) (pl_lt x hx t ht)]
theorem bytes_take {l : List Int} (h : Bytes l) (k : Nat) : Bytes (l.take k) := fun y hy => h y (List.mem_of_mem_take hy)
theorem pl_take (l : List Int) (hb : Bytes l) (x : Nat) (hx : x < 256) (k : Nat) (hk : k < l.length) : pl x (l.take (k + 1)) = mul (pl x (l.take k)) (x ^^^ nb l k) := by
  have h1 := nb_lt hb k
  rw [List.take_succ_eq_append_getElem hk, pl_append x hx _ _ (bytes_take hb k) (fun y hy => by rw [List.mem_singleton.1 hy]; exact hb _ (List.getElem_mem hk)), pl, pl, mul_one, nb_mem k hk]
theorem prod_low (l : List Int) (hb : Bytes l) (but x : Nat) (hx : x < 256) : ∀ j, j ≤ but → j ≤ l.length → prodTo l but x j = pl x (l.take j)
  | 0, _, _ => rfl
  | j + 1, h, hl => by rw [prodTo, if_neg (by omega), prod_low l hb but x hx j (by omega) (by omega), pl_take l hb x hx j (by omega)]
theorem prod_high (l : List Int) (hb : Bytes l) (but x : Nat) (hx : x < 256) : ∀ d, but + 1 + d ≤ l.length → prodTo l but x (but + 1 + d) = mul (pl x (l.take but)) (pl x ((l.drop (but + 1)).take d))
  | 0, h => by
    rw [Nat.add_zero, prodTo, if_pos rfl, prod_low l hb but x hx but (Nat.le_refl _) (by omega), List.take_zero, pl, mul_one]
  | d + 1, h => by
    have e : but + 1 + (d + 1) = (but + 1 + d) + 1 := by omega
    have h1 : d < (l.drop (but + 1)).length := by rw [List.length_drop]; omega
    have h2 : nb (l.drop (but + 1)) d = nb l (but + 1 + d) := by rw [← nb_mem d h1, ← nb_mem (but + 1 + d) (by omega), List.getElem_drop]
    have hbd := bytes_drop hb (but + 1)
    rw [e, prodTo, if_neg (by omega), prod_high l hb but x hx d (by omega), pl_take _ hbd x hx d h1, h2, mul_assoc _ _ _ (pl_lt x hx _ (bytes_take hb but)) (pl_lt x hx _ (bytes_take hbd d)) (xor_lt _ _ hx (nb_lt hb _))]
theorem prod_all (l : List Int) (hb : Bytes l) (k x : Nat) (hx : x < 256) (hk : k < l.length) : prodTo l k x l.length = mul (pl x (l.take k)) (pl x (l.drop (k + 1))) := by
  have h := prod_high l hb k x hx (l.length - (k + 1)) (by omega)
  rw [show k + 1 + (l.length - (k + 1)) = l.length by omega, List.take_of_length_le (l := l.drop (k + 1)) (by rw [List.length_drop]; omega)] at h
  exact h

/-- The list that begins with element k. -/
def turned (l : List Int) (k : Nat) : List Int := l.drop k ++ l.take k
theorem turned_length (l : List Int) (k : Nat) (hk : k < l.length) : (turned l k).length = l.length := by simp [turned]; omega
theorem turned_bytes {l : List Int} (hb : Bytes l) (k : Nat) : Bytes (turned l k) := fun y hy => by
  rcases List.mem_append.1 hy with h | h
  · exact hb y (List.mem_of_mem_drop h)
  · exact hb y (List.mem_of_mem_take h)
theorem turned_dist {l : List Int} (hd : dist l = true) (k : Nat) (hk : k < l.length) : dist (turned l k) = true := by
  have hp : (turned l k).Perm l := by
    have h := List.perm_append_comm (l₁ := l.drop k) (l₂ := l.take k)
    rwa [List.take_append_drop] at h
  have hnd : l.Nodup := by simp [dist] at hd; exact hd.1.1
  have h1 : (turned l k).Nodup := hp.nodup_iff.2 hnd
  have h2 := turned_length l k hk
  simp [dist] at hd
  simp [dist, h1]
  omega
theorem turned_first (l : List Int) (k : Nat) (hk : k < l.length) : nb (turned l k) 0 = nb l k := by
  rw [← nb_mem 0 (by rw [turned_length l k hk]; omega), ← nb_mem k hk]
  have h0 : 0 < l.length - k := by omega
  simp [turned, h0]
theorem turned_prod (l : List Int) (hb : Bytes l) (k x : Nat) (hx : x < 256) (hk : k < l.length) : prodTo (turned l k) 0 x l.length = prodTo l k x l.length := by
  have h := prod_all (turned l k) (turned_bytes hb k) 0 x hx (by rw [turned_length l k hk]; omega)
  rw [turned_length l k hk] at h
  have e : (turned l k).drop (0 + 1) = l.drop (k + 1) ++ l.take k := by
    rw [turned, List.drop_eq_getElem_cons hk]; rfl
  rw [h, prod_all l hb k x hx hk, e, pl_append x hx _ _ (bytes_drop hb _) (bytes_take hb k), List.take_zero, pl, one_mul _ (mul_lt _ _ (pl_lt x hx _ (bytes_drop hb _)))]
  exact mul_comm _ _ (pl_lt x hx _ (bytes_drop hb _)) (pl_lt x hx _ (bytes_take hb k))
/-- A weight in the list that begins with its element. -/
theorem turned_wt (l : List Int) (hb : Bytes l) (k x : Nat) (hx : x < 256) (hk : k < l.length) : wt (turned l k) x 0 = wt l x k := by
  unfold wt
  rw [turned_length l k hk, turned_prod l hb k x hx hk, turned_first l k hk, turned_prod l hb k _ (nb_lt hb k) hk]
end Go.Proofs.Ytgijeelednmmkaa.Gw
