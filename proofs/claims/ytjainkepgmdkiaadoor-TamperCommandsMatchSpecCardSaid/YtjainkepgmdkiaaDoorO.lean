/-
  An argument that is an array of whole numbers, opened.
-/
import Derived.Test.YtjainkepgmdkiaaDoorE
import Derived.ProofKit
import Derived.OpenShut
namespace Go.Proofs.YtjainkepgmdkiaaDoor.O
open Go.ChangeShapes Go.WideShapes Go.ChangeAt Go.Proofs.YtjainkepgmdkiaaDoor.E
section
variable {H : Type} {enc : TypeId × Value → H} {P : Program} {w : World} {base : Nat} {spare : Nat → Bool} {held : Bool}
theorem ints_of {k : IntKind} : ∀ l : List Value, (∀ i, i < l.length → ∃ z, l[i]? = some (.int k z) ∧ (Lit.int k z).wf = true) → ∃ zs : List Int, l = zs.map (Value.int k) ∧ ∀ z ∈ zs, (Lit.int k z).wf = true
  | [], _ => ⟨[], rfl, fun z hz => by simp at hz⟩
  | v :: l, h => by
    obtain ⟨z, hz, hw⟩ := h 0 (by simp)
    obtain ⟨zs, rfl, hzs⟩ := ints_of l (fun i hi => by have := h (i + 1) (by simpa using hi); simpa using this)
    have hv : v = .int k z := by simpa using hz
    subst hv
    refine ⟨z :: zs, rfl, fun y hy => ?_⟩
    rcases List.mem_cons.1 hy with rfl | hy
    · exact hw
    · exact hzs y hy
theorem cells_ints {t e : TypeId} {n : Nat} {k : IntKind} {fuel : Nat} {cs : List Value} {x : DataW H × List MemPlace} (ht : P.underlying t = some (.array n e)) (he : P.underlying e = some (.int k)) (hce : P.cellsOf e = 1) (hct : P.cellsOf t = n)
    (h : DataW.trod enc P w base spare held fuel t cs = some x) : ∃ zs : List Int, cs = zs.map (Value.int k) ∧ zs.length = n ∧ ∀ z ∈ zs, (Lit.int k z).wf = true := by
  obtain ⟨xs, m, rfl, _, hl, hxl, hel⟩ := DataW.trod_array ht h
  rw [hct] at hl
  obtain ⟨zs, rfl, hzs⟩ := ints_of (k := k) cs (fun i hi => by
    have h1 := hel i (by omega)
    rw [hce, Nat.mul_one] at h1
    have h2 : (cs.drop i).take 1 = [cs[i]] := by rw [List.drop_eq_getElem_cons hi]; rfl
    rw [h2, List.getElem?_eq_getElem (by omega)] at h1
    obtain ⟨z, hz, _, hw⟩ := DataW.trod_int he h1
    have hz' : cs[i] = .int k z := by simpa using hz
    exact ⟨z, by rw [List.getElem?_eq_getElem hi, hz'], hw⟩)
  exact ⟨zs, rfl, by simpa using hl, hzs⟩
theorem open_arr {r : Reach} {b0 : Nat} {t e : TypeId} {n : Nat} {k : IntKind} {v : Value} {d : DataW H} {ps : List MemPlace} (ht : P.underlying t = some (.array n e)) (he : P.underlying e = some (.int k)) (hce : P.cellsOf e = 1) (hct : P.cellsOf t = n)
    (hval : Value.okWide P w r b0 t v) (hd : DataW.Trod enc P w base spare held t v d ps) : ∃ zs : List Int, v = .agg (ints k zs) ∧ zs.length = n ∧ ∀ z ∈ zs, (Lit.int k z).wf = true := by
  unfold Value.okWide at hval
  rw [ht] at hval
  obtain ⟨cs, rfl, _, _⟩ := hval
  obtain ⟨fuel, hf⟩ := hd
  obtain ⟨zs, h1, h2, h3⟩ := cells_ints ht he hce hct hf
  refine ⟨zs, ?_, h2, h3⟩
  have h4 : cs.toList = zs.map (Value.int k) := by simpa [Value.cells] using h1
  unfold ints
  rw [← h4]
end
end Go.Proofs.YtjainkepgmdkiaaDoor.O
