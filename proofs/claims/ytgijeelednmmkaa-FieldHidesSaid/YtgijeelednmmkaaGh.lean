/-
  Two polynomials through the same points with different values at 0 differ wherever there is no point.
-/
import Derived.Test.YtgijeelednmmkaaGw
namespace Go.Proofs.Ytgijeelednmmkaa.Gh
open Go.Proofs.Ytgijeelednmmkaa.M Go.Proofs.Ytgijeelednmmkaa.Wa Go.Proofs.Ytgijeelednmmkaa.Wb Go.Proofs.Ytgijeelednmmkaa.Wc Go.Proofs.Ytgijeelednmmkaa.Wd Go.Proofs.Ytgijeelednmmkaa.We Go.Proofs.Ytgijeelednmmkaa.G Go.Proofs.Ytgijeelednmmkaa.Gp Go.Proofs.Ytgijeelednmmkaa.Gq Go.Proofs.Ytgijeelednmmkaa.Gl

theorem nb_first (a : Int) (l : List Int) : nb (a :: l) 0 = a.toNat := by simp [nb, Go.Proofs.YtgijeelednmmkaaW.PrintWords.rd]
theorem nb_next (a : Int) (l : List Int) (j : Nat) : nb (a :: l) (j + 1) = nb l j := by simp [nb, Go.Proofs.YtgijeelednmmkaaW.PrintWords.rd]
theorem bytes_cons {l : List Int} (h : Bytes l) (a : Nat) (ha : a < 256) : Bytes ((a : Int) :: l) := fun y hy => by
  rcases List.mem_cons.1 hy with rfl | hy
  · omega
  · exact h y hy
section
variable (l0 l1 : List Int) (a : Nat) (hb0 : Bytes l0) (hb1 : Bytes l1) (ha : a < 256) (hd : dist (0 :: l0) = true)
include hb0 hb1 ha hd
theorem at_zero : ev 0 (coef (0 :: l0) ((a : Int) :: l1)) = a := by
  have hnd : (0 :: l0).Nodup := by simp only [dist, Bool.and_eq_true, decide_eq_true_eq] at hd; exact hd.1.1
  have h := coef_value (0 :: l0) ((a : Int) :: l1) (bytes_cons hb0 0 (by omega)) (bytes_cons hb1 a ha) hnd 0 (by simp)
  rw [nb_first, nb_first] at h
  simpa using h
theorem at_point (j : Nat) (hj : j < l0.length) : ev (nb l0 j) (coef (0 :: l0) ((a : Int) :: l1)) = nb l1 j := by
  have hnd : (0 :: l0).Nodup := by simp only [dist, Bool.and_eq_true, decide_eq_true_eq] at hd; exact hd.1.1
  have h := coef_value (0 :: l0) ((a : Int) :: l1) (bytes_cons hb0 0 (by omega)) (bytes_cons hb1 a ha) hnd (j + 1) (by simp; omega)
  rwa [nb_next, nb_next] at h
end
/-- Whether x is one of the first n elements. -/
def known (l : List Int) (x n : Nat) : Bool := decide (∃ j, j < n ∧ nb l j = x)
theorem known_zero (l : List Int) (x : Nat) : known l x 0 = false := by simp [known]
theorem known_next (l : List Int) (x n : Nat) : known l x (n + 1) = (known l x n || decide (nb l n = x)) := by
  unfold known
  by_cases h : nb l n = x
  · rw [decide_eq_true h, Bool.or_true]
    exact decide_eq_true ⟨n, by omega, h⟩
  · rw [decide_eq_false h, Bool.or_false]
    refine decide_eq_decide.2 ⟨fun ⟨j, hj, hx⟩ => ⟨j, ?_, hx⟩, fun ⟨j, hj, hx⟩ => ⟨j, by omega, hx⟩⟩
    rcases Nat.lt_or_ge j n with h2 | h2
    · exact h2
    · obtain rfl : j = n := by omega
      exact absurd hx h
theorem same_iff (l0 l1 : List Int) (a b x : Nat) (hb0 : Bytes l0) (hb1 : Bytes l1) (ha : a < 256) (hb : b < 256) (hx : x < 256) (hd : dist (0 :: l0) = true) :
    ev x (coef (0 :: l0) ((a : Int) :: l1)) = ev x (coef (0 :: l0) ((b : Int) :: l1)) ↔ (∃ j, j < l0.length ∧ nb l0 j = x) ∨ a = b := by
  have hnd : (0 :: l0).Nodup := by simp only [dist, Bool.and_eq_true, decide_eq_true_eq] at hd; exact hd.1.1
  constructor
  · intro h
    by_cases hk : ∃ j, j < l0.length ∧ nb l0 j = x
    · exact .inl hk
    · refine .inr ?_
      have hni : (x : Int) ∉ l0 := fun hm => by
        obtain ⟨k, hk1, hk2⟩ := nb_of_mem hm
        exact hk ⟨k, hk1, by simpa using hk2.symm⟩
      have he := unique (coef (0 :: l0) ((a : Int) :: l1)) (coef (0 :: l0) ((b : Int) :: l1)) ((x : Int) :: l0) (coef_bytes _ _ (bytes_cons hb0 0 (by omega))) (coef_bytes _ _ (bytes_cons hb0 0 (by omega))) (bytes_cons hb0 x hx) (by rw [coef_length]; simp) (by rw [coef_length]; simp) (List.nodup_cons.2 ⟨hni, (List.nodup_cons.1 hnd).2⟩) (fun y hy => by
        rcases List.mem_cons.1 hy with rfl | hy
        · simpa using h
        · obtain ⟨k, hk1, hk2⟩ := nb_of_mem hy
          rw [hk2, at_point l0 l1 a hb0 hb1 ha hd k hk1, at_point l0 l1 b hb0 hb1 hb hd k hk1])
      have h0 := at_zero l0 l1 a hb0 hb1 ha hd
      rw [he, at_zero l0 l1 b hb0 hb1 hb hd] at h0
      exact h0.symm
  · rintro (⟨j, hj, rfl⟩ | rfl)
    · rw [at_point l0 l1 a hb0 hb1 ha hd j hj, at_point l0 l1 b hb0 hb1 hb hd j hj]
    · rfl
end Go.Proofs.Ytgijeelednmmkaa.Gh
