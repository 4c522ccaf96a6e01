/-
  For all bytes, the products, inverses and quotients of the program are those of the specification.
-/
import Derived.Test.YtgijeelednmmkaaPAllx2
import Derived.Test.YtgijeelednmmkaaR
namespace Go.Proofs.Ytgijeelednmmkaa.Pure
open Go.RowKit Go.Proofs.Ytgijeelednmmkaa.PAll Go.Proofs.Ytgijeelednmmkaa.R Go.Proofs.YtgijeelednmmkaaW.PrintWords Go.Proofs.YtgijeelednmmkaaW.PrintLast

theorem FieldMatchesSpec : custodylaw06_FieldMatchesSpec.Pure := by
  intro a0 a1 h0 h1
  obtain ⟨a, rfl, ha⟩ := byte h0
  obtain ⟨b, rfl, hb⟩ := byte h1
  refine ⟨300, ?_⟩
  unfold custodylaw06_FieldMatchesSpec.f
  rw [f_inv a ha, ref_inv a 300 ha (by omega), f_div a b ha hb, ref_div a b 300 ha hb (by omega), f_mul a b ha hb, ref_mul a b 300 ha hb (by omega)]
  simp [custodylaw06_sanity.f]
end Go.Proofs.Ytgijeelednmmkaa.Pure
