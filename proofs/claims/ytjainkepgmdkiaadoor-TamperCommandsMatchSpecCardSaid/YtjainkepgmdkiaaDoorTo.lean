/-
  Arguments opened: a state, a reading; the table of the sensors out of the row's condition.
-/
import Derived.Test.YtjainkepgmdkiaaDoorTc
import Derived.Test.YtjainkepgmdkiaaDoorO
import Derived.Test.YtjainkepgmdkiaaDoorRows
import Derived.ProofKit
import Derived.LaidMore
import Derived.OpenShut
import Derived.Stop.Joined
import Derived.Lib.SmallJoins
namespace Go.Proofs.YtjainkepgmdkiaaDoor.To
open Go.ChangeShapes Go.WideShapes Go.ChangeAt Go.WideElems Go.RowKit Go.Proofs.YtjainkepgmdkiaaDoor.E Go.Proofs.YtjainkepgmdkiaaDoor.O Go.Proofs.YtjainkepgmdkiaaDoor.Ta Go.Proofs.YtjainkepgmdkiaaDoor.Tc
def tell (f : Field) : String × TypeId × Nat := (f.name, f.type, f.offset)
theorem u27 : Tryd.prog.underlying 27 = some (.struct (Tryd.prog.fieldsOf 27)) := by kernel_rfl
theorem u35 : Tryd.prog.underlying 35 = some (.struct (Tryd.prog.fieldsOf 35)) := by kernel_rfl
theorem u59 : Tryd.prog.underlying 59 = some (.struct (Tryd.prog.fieldsOf 59)) := by kernel_rfl
theorem u60 : Tryd.prog.underlying 60 = some (.array 4 59) := by kernel_rfl
theorem u25 : Tryd.prog.underlying 25 = some (.array 4 3) := by kernel_rfl
theorem u41 : Tryd.prog.underlying 41 = some (.array 2 3) := by kernel_rfl
theorem u3 : Tryd.prog.underlying 3 = some (.int .i64) := by kernel_rfl
theorem look27 : (Tryd.prog.fieldsOf 27).toList.map tell = [("Mode", 3, 0), ("Time", 3, 1), ("Scores", 25, 2)] := by kernel_rfl
theorem look35 : (Tryd.prog.fieldsOf 35).toList.map tell = [("Sensor", 3, 0), ("Level", 3, 1)] := by kernel_rfl
theorem look59 : (Tryd.prog.fieldsOf 59).toList.map tell = [("low", 3, 0), ("high", 3, 1), ("weight", 3, 2)] := by kernel_rfl
theorem k3 : Tryd.prog.cellsOf 3 = 1 := by kernel_rfl
theorem k25 : Tryd.prog.cellsOf 25 = 4 := by kernel_rfl
theorem k27 : Tryd.prog.cellsOf 27 = 6 := by kernel_rfl
theorem k35 : Tryd.prog.cellsOf 35 = 2 := by kernel_rfl
theorem k41 : Tryd.prog.cellsOf 41 = 2 := by kernel_rfl
theorem k59 : Tryd.prog.cellsOf 59 = 3 := by kernel_rfl
theorem k60 : Tryd.prog.cellsOf 60 = 12 := by kernel_rfl
theorem field_of {fs : Array Field} {L : List (String × TypeId × Nat)} (h : fs.toList.map tell = L) (i : Nat) (n : String) (t : TypeId) (o : Nat) (hx : L[i]? = some (n, t, o)) : ∃ f, fs[i]? = some f ∧ f.type = t ∧ f.offset = o := by
  subst h
  rw [List.getElem?_map] at hx
  obtain ⟨f, hf, he⟩ := Option.map_eq_some_iff.1 hx
  refine ⟨f, by simpa using hf, ?_, ?_⟩
  · exact congrArg (fun p => p.2.1) he
  · exact congrArg (fun p => p.2.2) he
section
variable {H : Type} {enc : TypeId × Value → H} {w : World} {base : Nat} {spare : Nat → Bool} {held : Bool}
/-- A field that is an int. -/
theorem int_field {fs : Array Field} {L : List (String × TypeId × Nat)} {m : Nat} {cs : List Value} {xs : List (DataW H × List MemPlace)} (h : fs.toList.map tell = L) (hlen : xs.length = fs.size)
    (hel : ∀ (i : Nat) (f : Field), fs[i]? = some f → DataW.trod enc Tryd.prog w base spare held m f.type ((cs.drop f.offset).take (Tryd.prog.cellsOf f.type)) = xs[i]?) (i : Nat) (n : String) (o : Nat) (hx : L[i]? = some (n, 3, o)) (ho : o < cs.length) :
    ∃ z, cs[o]? = some (.int .i64 z) ∧ (xs[i]?).map (·.1) = some (.lit (.int .i64 z)) ∧ (Lit.int .i64 z).wf = true := by
  obtain ⟨f, hf, ht, hoff⟩ := field_of h i n 3 o hx
  have h1 := hel i f hf
  have hi : i < xs.length := by rw [hlen]; exact (Array.getElem?_eq_some_iff.1 hf).1
  rw [ht, hoff, k3, List.getElem?_eq_getElem hi] at h1
  have h2 : (cs.drop o).take 1 = [cs[o]] := by rw [List.drop_eq_getElem_cons ho]; rfl
  rw [h2] at h1
  obtain ⟨z, hz, hy, hw⟩ := DataW.trod_int u3 h1
  refine ⟨z, by rw [List.getElem?_eq_getElem ho]; simpa using hz, ?_, hw⟩
  rw [List.getElem?_eq_getElem hi, hy]
  rfl
/-- Six numbers of 64 bits. -/
def I64 (s : Tm) : Prop := (Lit.int .i64 s.m).wf = true ∧ (Lit.int .i64 s.t).wf = true ∧ (Lit.int .i64 s.a).wf = true ∧ (Lit.int .i64 s.b).wf = true ∧ (Lit.int .i64 s.c).wf = true ∧ (Lit.int .i64 s.d).wf = true
theorem open_tm {r : Reach} {b0 : Nat} {v : Value} {d : DataW H} {ps : List MemPlace} (hval : Value.okWide Tryd.prog w r b0 27 v) (hd : DataW.Trod enc Tryd.prog w base spare held 27 v d ps) : ∃ s : Tm, v = .agg s.cells := by
  obtain ⟨cs, rfl, hsz⟩ := okWide_struct u27 hval
  obtain ⟨fuel, hf⟩ := hd
  obtain ⟨xs, m, rfl, _, hl, hxl, hel⟩ := DataW.trod_struct u27 hf
  have hl6 : cs.toList.length = 6 := by rw [← k27, ← hsz]; simp
  have hcs : (Value.agg cs).cells.toList = cs.toList := by simp [Value.cells]
  rw [hcs] at hel
  obtain ⟨z0, h0, _, _⟩ := int_field look27 hxl hel 0 "Mode" 0 rfl (by omega)
  obtain ⟨z1, h1, _, _⟩ := int_field look27 hxl hel 1 "Time" 1 rfl (by omega)
  obtain ⟨f, hf2, ht2, ho2⟩ := field_of look27 2 "Scores" 25 2 rfl
  have h2 := hel 2 f hf2
  have hi : 2 < xs.length := by rw [hxl]; exact (Array.getElem?_eq_some_iff.1 hf2).1
  rw [ht2, ho2, k25, List.getElem?_eq_getElem hi] at h2
  obtain ⟨zs, hz, hzl, _⟩ := cells_ints u25 u3 k3 k25 h2
  obtain ⟨cl⟩ := cs
  simp only [] at *
  match cl, hl6, zs, hzl with
  | [c0, c1, c2, c3, c4, c5], _, [a, b, c, d], _ =>
    simp at h0 h1 hz
    obtain ⟨rfl, rfl, rfl, rfl⟩ := hz
    subst h0 h1
    exact ⟨⟨z0, z1, a, b, c, d⟩, rfl⟩
theorem open_ev {r : Reach} {b0 : Nat} {v : Value} {d : DataW H} {ps : List MemPlace} (hval : Value.okWide Tryd.prog w r b0 35 v) (hd : DataW.Trod enc Tryd.prog w base spare held 35 v d ps) : ∃ s l : Int, v = .agg #[.int .i64 s, .int .i64 l] := by
  obtain ⟨cs, rfl, hsz⟩ := okWide_struct u35 hval
  obtain ⟨fuel, hf⟩ := hd
  obtain ⟨xs, m, rfl, _, hl, hxl, hel⟩ := DataW.trod_struct u35 hf
  have hl6 : cs.toList.length = 2 := by rw [← k35, ← hsz]; simp
  have hcs : (Value.agg cs).cells.toList = cs.toList := by simp [Value.cells]
  rw [hcs] at hel
  obtain ⟨z0, h0, _, _⟩ := int_field look35 hxl hel 0 "Sensor" 0 rfl (by omega)
  obtain ⟨z1, h1, _, _⟩ := int_field look35 hxl hel 1 "Level" 1 rfl (by omega)
  obtain ⟨cl⟩ := cs
  simp only [] at *
  match cl, hl6 with
  | [c0, c1], _ =>
    simp at h0 h1
    subst h0 h1
    exact ⟨z0, z1, rfl⟩
end
end Go.Proofs.YtjainkepgmdkiaaDoor.To
