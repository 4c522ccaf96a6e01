/-
  For all lists of at most 40 bytes and every byte, Eval, Weights, Interpolate and Coefficients return what the specification returns.
-/
import Derived.Test.YtgijeelednmmkaaPAllx10
import Derived.Test.YtgijeelednmmkaaR2
namespace Go.Proofs.Ytgijeelednmmkaa.Pure
open Go.RowKit Go.Proofs.Ytgijeelednmmkaa.Wb Go.Proofs.Ytgijeelednmmkaa.Gf Go.Proofs.Ytgijeelednmmkaa.R2 Go.Proofs.Ytgijeelednmmkaa.PAll Go.Proofs.YtgijeelednmmkaaW.PrintWords Go.Proofs.YtgijeelednmmkaaW.PrintLast

theorem FieldPolynomialsMatchSpec : custodylaw06_FieldPolynomialsMatchSpec.Pure := by
  intro l0 l1 a2 _ _ w0 _ _ w1 w2
  have h0 := bytes_of w0
  have h1 := bytes_of w1
  have h2 := byte_of w2
  by_cases hf : custodylaw06_few.f l0 l1 = some true
  · have hl : l0.length ≤ 40 ∧ l1.length ≤ 40 := by
      unfold custodylaw06_few.f at hf
      split at hf
      · simp at hf; omega
      · simp at hf
    obtain ⟨x, rfl⟩ : ∃ x : Nat, a2 = (x : Int) := ⟨a2.toNat, by omega⟩
    have hx : x < 256 := by omega
    obtain ⟨K1, e1⟩ := weights_ends l0 x hx h0
    obtain ⟨K2, e2⟩ := interp_ends l0 l1 x hx h0 h1
    obtain ⟨K3, e3⟩ := coef_ends l0 l1 h0 h1
    obtain ⟨K4, e4⟩ := eval_ends l1 x hx h1 (by omega)
    refine ⟨K1 + K2 + K3 + K4, ?_⟩
    have e1 := e1 (K1 + K2 + K3 + K4) (by omega)
    have e2 := e2 (K1 + K2 + K3 + K4) (by omega)
    have e3 := e3 (K1 + K2 + K3 + K4) (by omega)
    have e4 := e4 (K1 + K2 + K3 + K4) (by omega)
    dsimp only at e1 e2 e3 e4
    unfold custodylaw06_FieldPolynomialsMatchSpec.f
    rw [hf, Option.bind_some, if_pos rfl, f_weights l0 _ h0 h2, e1, f_interp l0 l1 _ h0 h1 h2, e2, f_coef l0 l1 h0 h1, e3, f_eval l1 _ h1 h2, e4]
    simp [custodylaw06_sanity.f, custodyref06_Same.f]
  · refine ⟨0, ?_⟩
    have hg : custodylaw06_few.f l0 l1 = some false := by
      unfold custodylaw06_few.f at hf ⊢
      split at hf
      · rename_i h
        rw [if_pos h]
        simp at hf ⊢
        omega
      · rename_i h; rw [if_neg h]
    unfold custodylaw06_FieldPolynomialsMatchSpec.f
    rw [hg]
    simp [custodylaw06_sanity.f]
end Go.Proofs.Ytgijeelednmmkaa.Pure
