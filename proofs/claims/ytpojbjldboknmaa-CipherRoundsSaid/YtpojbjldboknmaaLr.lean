/-
  The rounds' law for an array as it comes in.
-/
import Derived.Test.YtpojbjldboknmaaLb
import Derived.Test.YtpojbjldboknmaaO
namespace Go.Proofs.Ytpojbjldboknmaa.Lr
open Go.RowKit Go.Proofs.Ytpojbjldboknmaa.E Go.Proofs.Ytpojbjldboknmaa.Qa Go.Proofs.Ytpojbjldboknmaa.Ro Go.Proofs.Ytpojbjldboknmaa.Rd Go.Proofs.Ytpojbjldboknmaa.Ru Go.Proofs.Ytpojbjldboknmaa.Pu Go.Proofs.Ytpojbjldboknmaa.Sy Go.Proofs.Ytpojbjldboknmaa.La Go.Proofs.Ytpojbjldboknmaa.Lb
theorem rounds_zs (zs : List Int) (w : World) (hl : zs.length = 16) (hw : ∀ z ∈ zs, (Lit.int .u32 z).wf = true) : Calls Try.prog 4 #[.agg (ints .u32 zs)] w fun e w' => e = .returned (.bool true) ∧ Below w.heap.size w w' := by
  have hb : ∀ z ∈ zs, 0 ≤ z ∧ z < 4294967296 := fun z hz => by
    obtain ⟨c, rfl, hc⟩ := u32_nat (hw z hz)
    omega
  obtain ⟨l, hz⟩ : ∃ l : List Nat, zs = l.map fun n : Nat => ((n : Nat) : Int) := ⟨zs.map Int.toNat, by
    rw [List.map_map]
    refine (List.map_id zs).symm.trans (List.map_congr_left fun z hz => ?_)
    have := hb z hz
    simp only [id, Function.comp]
    omega⟩
  subst hz
  have hf : Fit l := ⟨by simpa using hl, fun x hx => by have := hb x (List.mem_map.2 ⟨x, hx, rfl⟩); omega⟩
  rw [← ws_ints]
  have hu : udn (dn l 10) 10 = l := undone hf
  exact rounds_at l (dn l 10) hf (dn_fit hf 10) w (fun w => rounds_walk l w hf) (fun w => ref_rounds_walk l w hf) (fun w => by
    have h := ref_undo_walk (dn l 10) w (dn_fit hf 10)
    rw [hu] at h
    exact h)
theorem cells23 : Try.prog.cellsOf 23 = 16 := by kernel_rfl
theorem open_arr {H : Type} {enc : TypeId × Value → H} {w : World} {base : Nat} {spare : Nat → Bool} {held : Bool} {r : Reach} {b0 : Nat} {v : Value} {d : DataW H} {ps : List MemPlace} (hval : Value.okWide Try.prog w r b0 23 v) (hd : DataW.Trod enc Try.prog w base spare held 23 v d ps) :
    ∃ zs : List Int, v = .agg (ints .u32 zs) ∧ zs.length = 16 ∧ ∀ z ∈ zs, (Lit.int .u32 z).wf = true := O.open_arr Try.underlying23 under22 cells22 cells23 hval hd
end Go.Proofs.Ytpojbjldboknmaa.Lr
