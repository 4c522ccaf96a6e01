/-
  The table of the sensors out of the row's condition; the witness.
-/
import Derived.Test.YtjainkepgmdkiaaDoorTo
namespace Go.Proofs.YtjainkepgmdkiaaDoor.Tq
open Go.ChangeShapes Go.WideShapes Go.ChangeAt Go.WideElems Go.RowKit Go.Proofs.YtjainkepgmdkiaaDoor.E Go.Proofs.YtjainkepgmdkiaaDoor.O Go.Proofs.YtjainkepgmdkiaaDoor.Ta Go.Proofs.YtjainkepgmdkiaaDoor.Tc Go.Proofs.YtjainkepgmdkiaaDoor.To
abbrev laid1 {H : Type} : List (String × DataW H) := [("custody/tamper.sensors", Rows.laid_custody_tamper_sensors)]
theorem gSens : Tryd.prog.globalNamed "custody/tamper.sensors" = some 0 := by kernel_rfl
theorem tSens : (Tryd.prog.globals[0]?).map (·.type) = some 60 := by kernel_rfl
section
variable {H : Type} {enc : TypeId × Value → H} {w : World} {base : Nat} {spare : Nat → Bool} {held : Bool}
theorem row59 {fuel : Nat} {cs : List Value} {x : DataW H × List MemPlace} {a b c : Int} (h : DataW.trod enc Tryd.prog w base spare held fuel 59 cs = some x) (hx : x.1 = .agg [.lit (.int .i64 a), .lit (.int .i64 b), .lit (.int .i64 c)]) : cs = [.int .i64 a, .int .i64 b, .int .i64 c] := by
  obtain ⟨xs, m, rfl, rfl, hl, hxl, hel⟩ := DataW.trod_struct u59 h
  rw [k59] at hl
  obtain ⟨z0, h0, e0, _⟩ := int_field look59 hxl hel 0 "low" 0 rfl (by omega)
  obtain ⟨z1, h1, e1, _⟩ := int_field look59 hxl hel 1 "high" 1 rfl (by omega)
  obtain ⟨z2, h2, e2, _⟩ := int_field look59 hxl hel 2 "weight" 2 rfl (by omega)
  simp only [DataW.agg.injEq] at hx
  have g : ∀ i : Nat, (xs[i]?).map (·.1) = ([.lit (.int .i64 a), .lit (.int .i64 b), .lit (.int .i64 c)] : List (DataW H))[i]? := fun i => by rw [← hx, List.getElem?_map]
  have g0 := (g 0).symm.trans e0
  have g1 := (g 1).symm.trans e1
  have g2 := (g 2).symm.trans e2
  simp at g0 g1 g2
  subst g0 g1 g2
  match cs, hl with
  | [c0, c1, c2], _ =>
    simp at h0 h1 h2
    subst h0 h1 h2
    rfl
theorem table {fuel : Nat} {cs : List Value} {p : List MemPlace} (h : DataW.trod enc Tryd.prog w base spare held fuel 60 cs = some (Rows.laid_custody_tamper_sensors, p)) : cs = SENS.toList := by
  obtain ⟨xs, m, rfl, hx, hl, hxl, hel⟩ := DataW.trod_array u60 h
  rw [k60] at hl
  rw [k59] at hel
  simp only [Prod.mk.injEq, Rows.laid_custody_tamper_sensors, DataW.agg.injEq] at hx
  obtain ⟨hx, _⟩ := hx
  match xs, hxl, hx, hel with
  | [x0, x1, x2, x3], _, hx, hel =>
    simp only [List.map_cons, List.map_nil, List.cons.injEq, and_true] at hx
    obtain ⟨e0, e1, e2, e3⟩ := hx
    have r0 := row59 (hel 0 (by decide)) e0.symm
    have r1 := row59 (hel 1 (by decide)) e1.symm
    have r2 := row59 (hel 2 (by decide)) e2.symm
    have r3 := row59 (hel 3 (by decide)) e3.symm
    match cs, hl with
    | [c0, c1, c2, c3, c4, c5, c6, c7, c8, c9, c10, c11], _ =>
      simp at r0 r1 r2 r3
      obtain ⟨rfl, rfl, rfl⟩ := r0
      obtain ⟨rfl, rfl, rfl⟩ := r1
      obtain ⟨rfl, rfl, rfl⟩ := r2
      obtain ⟨rfl, rfl, rfl⟩ := r3
      rfl
end
/-- WHAT THE CONDITION GIVES: the table lies in block 0. -/
theorem of_laid {W : World} (h : laidMetH Tryd.prog laid1 W) : Gl W := by
  rw [MakeChecks.laidMetH_plain _ _ _ (by kernel_rfl)] at h
  obtain ⟨ps, ⟨g0, t0, cs0, f0, p0, q0, hg0, ht0, hv0, hd0, _, _⟩, _, _⟩ := h
  obtain rfl := Option.some.inj (gSens.symm.trans hg0)
  obtain rfl := Option.some.inj (tSens.symm.trans ht0)
  have hc := table hd0
  have hcs : cs0 = SENS := by
    obtain ⟨l⟩ := cs0
    simp only [] at hc
    rw [hc]
  subst hcs
  unfold World.var? at hv0
  rw [gSens, Option.bind_some] at hv0
  split at hv0
  · rename_i cs t fr hh
    obtain rfl := Option.some.inj hv0
    exact ⟨t, fr, hh⟩
  · cases hv0
/-- The door's own heap meets the condition. -/
theorem door_met (os : Os) (args : Array Value) : laidMetH Tryd.prog laid1 ((World.doorLaid Tryd.prog 18 os).forCall (fun _ _ => 0) ⟨#[], args, []⟩).memory :=
  laidMetH_of_parts3 (fuel := 8) (laidMet_of_run' 8 (by kernel_rfl) (by kernel_rfl)) (by kernel_rfl) (by kernel_rfl)
end Go.Proofs.YtjainkepgmdkiaaDoor.Tq
