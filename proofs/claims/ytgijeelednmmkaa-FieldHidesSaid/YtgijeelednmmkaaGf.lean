/-
  The program's functions at bytes, by plain formulas.
-/
import Derived.Test.YtgijeelednmmkaaPAllx2
import Derived.Test.YtgijeelednmmkaaGl
namespace Go.Proofs.Ytgijeelednmmkaa.Gf
open Go.RowKit Go.Proofs.Ytgijeelednmmkaa.M Go.Proofs.Ytgijeelednmmkaa.Wb Go.Proofs.Ytgijeelednmmkaa.Wc Go.Proofs.Ytgijeelednmmkaa.Wd Go.Proofs.Ytgijeelednmmkaa.We Go.Proofs.Ytgijeelednmmkaa.Gq Go.Proofs.Ytgijeelednmmkaa.Gl Go.Proofs.Ytgijeelednmmkaa.PAll Go.Proofs.YtgijeelednmmkaaW.PrintWords Go.Proofs.YtgijeelednmmkaaW.PrintLast

theorem byte_of {a : Int} (h : (Lit.int .u8 a).wf = true) : 0 ≤ a ∧ a ≤ 255 := by
  simp only [Lit.wf, IntKind.min, IntKind.max, IntKind.signed, IntKind.bits] at h
  simp at h
  omega
theorem bytes_of {l : List Int} (h : ∀ x ∈ l, (Lit.int .u8 x).wf = true) : Bytes l := fun x hx => byte_of (h x hx)
theorem L_next (f : Nat → Nat) (n : Nat) : L f n ++ [((f n : Nat) : Int)] = L f (n + 1) := by simp [L, List.range_succ]
theorem nb_L {f : Nat → Nat} {n j : Nat} (h : j < n) : nb (L f n) j = f j := by simp [nb, rd, L, h]
theorem f_coef (l0 l1 : List Int) (h0 : Bytes l0) (h1 : Bytes l1) : field_Coefficients.f l0 l1 = some (if dist l0 = true ∧ l0.length = l1.length then (coef l0 l1, 0) else ([], 1)) := by
  unfold field_Coefficients.f fCoefficients
  exact if_pos ⟨h0, h1⟩
theorem f_interp (l0 l1 : List Int) (x : Int) (h0 : Bytes l0) (h1 : Bytes l1) (h2 : 0 ≤ x ∧ x ≤ 255) : field_Interpolate.f l0 l1 x = some (if dist l0 = true ∧ l0.length = l1.length then (((sumTo (wts l0 x.toNat) l1 l1.length : Nat) : Int), 0) else (0, 1)) := by
  unfold field_Interpolate.f fInterpolate
  exact if_pos ⟨⟨h0, h1⟩, h2⟩
theorem f_eval (l : List Int) (x : Int) (h0 : Bytes l) (h2 : 0 ≤ x ∧ x ≤ 255) : field_Eval.f l x = some ((ev x.toNat l : Nat) : Int) := by
  unfold field_Eval.f fEval
  exact if_pos ⟨h0, h2⟩
theorem f_weights (l : List Int) (x : Int) (h0 : Bytes l) (h2 : 0 ≤ x ∧ x ≤ 255) : field_Weights.f l x = some (if dist l = true then (wts l x.toNat, 0) else ([], 1)) := by
  unfold field_Weights.f fWeights
  exact if_pos ⟨h0, h2⟩
theorem dist_nodup {l : List Int} (h : dist l = true) : l.Nodup := by simp [dist] at h; exact h.1.1
end Go.Proofs.Ytgijeelednmmkaa.Gf
