/-
  Arguments that are slices, opened: readings, numbers.
-/
import Derived.Test.YtjainkepgmdkiaaDoorTo
import Derived.Deep.Slices
import Derived.ChangeSlices
namespace Go.Proofs.YtjainkepgmdkiaaDoor.Uo
open Go.ChangeShapes Go.WideShapes Go.ChangeAt Go.WideElems Go.RowKit Go.Proofs.YtjainkepgmdkiaaDoor.E Go.Proofs.YtjainkepgmdkiaaDoor.O Go.Proofs.YtjainkepgmdkiaaDoor.To
theorem u47 : Tryd.prog.underlying 47 = some (.slice 49) := by kernel_rfl
theorem u49 : Tryd.prog.underlying 49 = some (.struct (Tryd.prog.fieldsOf 49)) := by kernel_rfl
theorem u23 : Tryd.prog.underlying 23 = some (.slice 31) := by kernel_rfl
theorem u31 : Tryd.prog.underlying 31 = some (.int .u16) := by kernel_rfl
theorem k31 : Tryd.prog.cellsOf 31 = 1 := by kernel_rfl
theorem k49 : Tryd.prog.cellsOf 49 = 3 := by kernel_rfl
theorem look49 : (Tryd.prog.fieldsOf 49).toList.map tell = [("E", 35, 0), ("Now", 3, 2)] := by kernel_rfl
/-- Numbers of 16 bits in memory. -/
def Row (w : World) (a : Option Addr) (len cap : Nat) : Prop :=
  (a = none ∧ len = 0 ∧ cap = 0) ∨ ∃ x, a = some x ∧ len ≤ cap ∧ cap ≤ maxLen ∧ ∀ j, j < len → ∃ n : Int, (0 ≤ n ∧ n ≤ 65535) ∧ w.cell? (x.add j) = some (.int .u16 n)
/-- Readings in memory. -/
def Rds (w : World) (a : Option Addr) (len cap : Nat) : Prop :=
  (a = none ∧ len = 0 ∧ cap = 0) ∨ ∃ x, a = some x ∧ len ≤ cap ∧ cap ≤ maxLen ∧ ∀ j, j < len → ∃ s l n : Int, w.cell? ((x.add (j * 3)).add 0) = some (.int .i64 s) ∧ w.cell? ((x.add (j * 3)).add 1) = some (.int .i64 l) ∧ w.cell? ((x.add (j * 3)).add 2) = some (.int .i64 n)
theorem cells3 {w : World} {b : Nat} {a : Addr} {cs : List Value} (h : w.cells? b a 3 = some cs) : ∃ c0 c1 c2, cs = [c0, c1, c2] ∧ w.cell? (a.add 0) = some c0 ∧ w.cell? (a.add 1) = some c1 ∧ w.cell? (a.add 2) = some c2 := by
  unfold World.cells? at h
  split at h
  · rw [show List.range 3 = [0, 1, 2] from rfl] at h
    simp [List.mapM_cons, Option.bind_eq_some_iff] at h
    obtain ⟨c0, h0, l1, ⟨c1, h1, l2, ⟨c2, h2, h3⟩, h4⟩, h5⟩ := h
    subst h3 h4 h5
    exact ⟨c0, c1, c2, rfl, h0, h1, h2⟩
  · cases h
section
variable {H : Type} {enc : TypeId × Value → H} {w : World} {base : Nat} {held : Bool}
theorem open_row {a : Option Addr} {len cap : Nat} {d : DataW H} {ps : List MemPlace} (hd : DataW.Trod enc Tryd.prog w base (fun _ => true) held 23 (.slice a len cap) d ps) : Row w a len cap := by
  obtain ⟨fuel, hf⟩ := hd
  rcases open_ints u23 u31 k31 hf with ⟨hcs, _⟩ | ⟨x, l, c, zs, hcs, _, hl, hm, hz, _, hcell, hwz⟩
  · simp [Value.cells] at hcs
    exact .inl hcs
  · simp [Value.cells] at hcs
    obtain ⟨rfl, rfl, rfl⟩ := hcs
    simp only [if_true] at hz
    refine .inr ⟨_, rfl, hl, hm, fun j hj => ⟨zs.getD j 0, ?_, hcell j (by omega)⟩⟩
    have hj2 : j < zs.length := by omega
    have h1 := hwz (zs.getD j 0) (by rw [List.getD_eq_getElem?_getD, List.getElem?_eq_getElem hj2]; exact List.getElem_mem hj2)
    generalize zs.getD j 0 = q at h1 ⊢
    simp only [Lit.wf, IntKind.min, IntKind.max, IntKind.signed, IntKind.bits] at h1
    simp at h1
    omega
theorem open_rds {a : Option Addr} {len cap : Nat} {d : DataW H} {ps : List MemPlace} (hd : DataW.Trod enc Tryd.prog w base (fun _ => true) held 47 (.slice a len cap) d ps) : Rds w a len cap := by
  obtain ⟨fuel, hf⟩ := hd
  rcases Go.Deep.open_slice u47 hf with ⟨hcs, _⟩ | ⟨x, l, c, m, n, D, Pl, hcs, _, hl, hm, hmm, _, hel⟩
  · simp [Value.cells] at hcs
    exact .inl hcs
  · simp [Value.cells] at hcs
    obtain ⟨rfl, rfl, rfl⟩ := hcs
    simp only [if_true] at hmm
    refine .inr ⟨_, rfl, hl, hm, fun j hj => ?_⟩
    obtain ⟨cs, h1, h2⟩ := hel j (by omega)
    rw [k49] at h1
    obtain ⟨c0, c1, c2, rfl, e0, e1, e2⟩ := cells3 h1
    obtain ⟨xs, q, _, _, hxl, hx2, hx3⟩ := DataW.trod_struct u49 h2
    obtain ⟨z2, g2, _, _⟩ := int_field look49 hx2 hx3 1 "Now" 2 rfl (by simp)
    obtain ⟨f, hf1, hf2, hf3⟩ := field_of look49 0 "E" 35 0 rfl
    have h3 := hx3 0 f hf1
    have hi : 0 < xs.length := by rw [hx2]; exact (Array.getElem?_eq_some_iff.1 hf1).1
    rw [hf2, hf3, k35, List.getElem?_eq_getElem hi] at h3
    obtain ⟨ys, q2, _, _, _, hy2, hy3⟩ := DataW.trod_struct u35 h3
    obtain ⟨z0, g0, _, _⟩ := int_field look35 hy2 hy3 0 "Sensor" 0 rfl (by simp)
    obtain ⟨z1, g1, _, _⟩ := int_field look35 hy2 hy3 1 "Level" 1 rfl (by simp)
    simp at g0 g1 g2
    subst g0 g1 g2
    exact ⟨z0, z1, z2, e0, e1, e2⟩
end
end Go.Proofs.YtjainkepgmdkiaaDoor.Uo
