/-
  The coefficients and the values everywhere of a polynomial of degree less than n are found again from its values at n different elements (at most 40).
-/
import Derived.Test.YtgijeelednmmkaaPAllx11
import Derived.Test.YtgijeelednmmkaaGf
namespace Go.Proofs.Ytgijeelednmmkaa.Pure
open Go.RowKit Go.Proofs.Ytgijeelednmmkaa.M Go.Proofs.Ytgijeelednmmkaa.Wb Go.Proofs.Ytgijeelednmmkaa.Wc Go.Proofs.Ytgijeelednmmkaa.Wd Go.Proofs.Ytgijeelednmmkaa.We Go.Proofs.Ytgijeelednmmkaa.Gq Go.Proofs.Ytgijeelednmmkaa.Gl Go.Proofs.Ytgijeelednmmkaa.Gf Go.Proofs.Ytgijeelednmmkaa.PAll Go.Proofs.YtgijeelednmmkaaW.PrintWords Go.Proofs.YtgijeelednmmkaaW.PrintLast

theorem rd_nb {l : List Int} (h : Bytes l) (i : Nat) : rd l (i : Int) = (nb l i : Nat) := nb_rd h i
/-- What is left behind the loop. -/
theorem tail_true (x0 x1 : List Int) (x2 : Int) (h0 : Bytes x0) (h1 : Bytes x1) (h2 : 0 ≤ x2 ∧ x2 ≤ 255) (hl : x0.length = x1.length) :
    ((field_Coefficients.f x1 (L (fun j => ev (nb x1 j) x0) x1.length)).bind fun bt204 => ((field_Interpolate.f x1 (L (fun j => ev (nb x1 j) x0) x1.length) x2).bind fun bt208 => (if bt204.2 = 0 then ((custodylaw06_sanity.f).bind fun t210 => (if t210 = true then (if bt208.2 = 0 then ((custodyref06_Same.f bt204.1 x0).bind fun t211 => (if t211 = true then ((field_Eval.f x0 x2).bind fun t212 => (some (bt208.1 == t212))) else (some false))) else (some false)) else (some false))) else ((custodylaw06_sanity.f).bind fun t213 => (if t213 = true then (if bt208.2 = 1 then (if (bt204.1.length : Int) = 0 then (some (bt208.1 == 0)) else (some false)) else (some false)) else (some false)))))) = some true := by
  have hv : Bytes (L (fun j => ev (nb x1 j) x0) x1.length) := L_bytes _ (fun j => ev_lt _ x0 h0)
  rw [f_coef _ _ h1 hv, f_interp _ _ _ h1 hv h2, Option.bind_some, Option.bind_some]
  by_cases hd : dist x1 = true
  · have hnd := dist_nodup hd
    have hc : coef x1 (L (fun j => ev (nb x1 j) x0) x1.length) = x0 := coef_unique _ _ _ h1 hv hnd h0 hl (fun j hj => (nb_L (f := fun j => ev (nb x1 j) x0) hj).symm)
    have hs : sumTo (wts x1 x2.toNat) (L (fun j => ev (nb x1 j) x0) x1.length) x1.length = ev x2.toNat x0 := by rw [sum_coef x1 _ h1 hv hnd _ (by omega), hc]
    simp only [L_length, hc, hs, f_eval x0 x2 h0 h2]
    simp [hd, custodylaw06_sanity.f, custodyref06_Same.f]
  · have hq : ¬ (dist x1 = true ∧ x1.length = (L (fun j => ev (nb x1 j) x0) x1.length).length) := fun h => hd h.1
    simp only [if_neg hq]
    simp [custodylaw06_sanity.f]
theorem loop (x0 x1 : List Int) (x2 : Int) (h0 : Bytes x0) (h1 : Bytes x1) (h2 : 0 ≤ x2 ∧ x2 ≤ 255) (hl : x0.length = x1.length) (h40 : x1.length ≤ 40) : ∀ (d k i : Nat), i + d = x1.length → d < k →
    custodylaw06_FieldInterpolates.l0 k x0 x1 x2 (L (fun j => ev (nb x1 j) x0) i) (i : Int) = some true
  | 0, k, i, h, hk => by
    obtain ⟨k, rfl⟩ : ∃ m, k = m + 1 := ⟨k - 1, by omega⟩
    obtain rfl : i = x1.length := by omega
    simp only [custodylaw06_FieldInterpolates.l0]
    rw [if_neg (by omega)]
    exact tail_true x0 x1 x2 h0 h1 h2 hl
  | d + 1, k, i, h, hk => by
    obtain ⟨k, rfl⟩ : ∃ m, k = m + 1 := ⟨k - 1, by omega⟩
    have ei : wrap64 ((i : Int) + 1) = ((i + 1 : Nat) : Int) := by unfold wrap64; omega
    have he : field_Eval.f x0 (rd x1 (i : Int)) = some ((ev (nb x1 i) x0 : Nat) : Int) := by
      have := nb_lt h1 i
      rw [rd_nb h1, f_eval x0 _ h0 (by omega)]
      rfl
    simp only [custodylaw06_FieldInterpolates.l0]
    rw [if_pos (by omega), if_pos (by omega), he, Option.bind_some, if_pos (by rw [L_length]; omega), ei, L_next]
    exact loop x0 x1 x2 h0 h1 h2 hl h40 d k (i + 1) (by omega) (by omega)
theorem FieldInterpolates : custodylaw06_FieldInterpolates.Pure := by
  intro l0 l1 a2 _ _ w0 _ _ w1 w2
  have h0 := bytes_of w0
  have h1 := bytes_of w1
  have h2 := byte_of w2
  refine ⟨l1.length + 3, ?_⟩
  have hj : ∀ k, custodylaw06_FieldInterpolates.j0 (k + 1) l0 l1 a2 true = some true := fun k => by simp [custodylaw06_FieldInterpolates.j0, custodylaw06_sanity.f]
  unfold custodylaw06_FieldInterpolates.f custodylaw06_few.f
  by_cases hf : (l0.length : Int) ≤ 40
  · rw [if_pos hf, Option.bind_some]
    by_cases hg : (l1.length : Int) ≤ 40
    · rw [if_pos (decide_eq_true hg)]
      by_cases hl : l0.length = l1.length
      · have e : ((l0.length : Int) != (l1.length : Int)) = false := by simp; omega
        rw [e, custodylaw06_FieldInterpolates.j0, if_neg (by simp)]
        exact loop l0 l1 a2 h0 h1 h2 hl (by omega) l1.length (l1.length + 2) 0 (by omega) (by omega)
      · have e : ((l0.length : Int) != (l1.length : Int)) = true := by simp; omega
        rw [e]; exact hj _
    · rw [if_neg (by simpa using hg)]; exact hj _
  · rw [if_neg hf, Option.bind_some, if_neg (by simp)]; exact hj _
end Go.Proofs.Ytgijeelednmmkaa.Pure
