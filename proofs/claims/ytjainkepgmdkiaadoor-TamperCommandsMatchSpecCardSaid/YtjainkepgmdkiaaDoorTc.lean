/-
  Alarms: the table of the sensors, and the walk of Alarm.
-/
import Derived.Test.YtjainkepgmdkiaaDoorTb
namespace Go.Proofs.YtjainkepgmdkiaaDoor.Tc
open Go.RowKit Go.Proofs.YtjainkepgmdkiaaDoor.B Go.Proofs.YtjainkepgmdkiaaDoor.Ta

/-- The cells of the sensors' table. -/
def SENS : Array Value := #[.int .i64 (-9223372036854775808), .int .i64 1, .int .i64 0, .int .i64 (-9223372036854775808), .int .i64 10, .int .i64 3, .int .i64 (-100), .int .i64 100, .int .i64 1, .int .i64 (-40), .int .i64 85, .int .i64 1]
/-- The table lies in block 0. -/
def Gl (w : World) : Prop := ∃ t fr, w.heap[0]? = some (.cells SENS t fr)
theorem Gl.lt {w : World} (h : Gl w) : 0 < w.heap.size := by obtain ⟨_, _, h⟩ := h; exact (Array.getElem?_eq_some_iff.1 h).1
theorem Gl.keep {w w' : World} (h : Gl w) (hk : w'.heap[0]? = w.heap[0]?) : Gl w' := by obtain ⟨t, fr, h⟩ := h; exact ⟨t, fr, hk.trans h⟩
theorem Gl.below {w w' : World} {B : Nat} (h : Gl w) (hb : Below B w w') (hB : 0 < B) : Gl w' := h.keep (hb.block 0 hB)
theorem Gl.next {w w' : World} (h : Gl w) (hb : Below w.heap.size w w') : Gl w' := h.below hb h.lt
theorem Gl.cell {w : World} (h : Gl w) (k : Nat) : w.cell? ⟨0, k, none⟩ = SENS[k]? := by obtain ⟨t, fr, h⟩ := h; exact cell_of_row w 0 k _ t fr h
theorem Gl.alloc {w : World} (h : Gl w) (o : Obj) : Gl (w.alloc o) := h.keep (Below.heap_alloc w o 0 h.lt)

/-- The level is an alarm of this sensor. -/
def alarm (s l : Int) : Bool := if s = 1 then decide (1 ≤ l) else if s = 2 then decide (10 ≤ l) else if s = 3 then decide (l ≤ -100) || decide (100 ≤ l) else if s = 4 then decide (l ≤ -40) || decide (85 ≤ l) else false
/-- What an alarm adds. -/
def weight (s : Int) : Int := if s = 2 then 3 else if s = 1 then 0 else 1
abbrev At (s l : Int) (r : Bool) : Prop := ∀ w : World, Gl w → Calls Tryd.prog 23 #[.agg #[.int .i64 s, .int .i64 l]] w fun e w' => e = .returned (.bool r) ∧ Below w.heap.size w w'
theorem box_at (w w1 : World) (cs : Array Value) (t : TypeId) (k : Nat) (h : Below (w.alloc (.cells cs t)).heap.size (w.alloc (.cells cs t)) w1) : w1.cell? ⟨w.heap.size, k, none⟩ = cs[k]? := by
  have h1 : Blk w1 w.heap.size t cs := (Blk.new w t cs).below h (by show w.heap.size < (w.heap.push _).size; simp)
  exact h1.cell k
set_option maxHeartbeats 2000000 in
set_option maxRecDepth 100000 in
theorem alarm_1n (l : Int) (hl : ¬ 1 ≤ l) : At 1 l false := by
  intro w hg
  go_enter Tryd.func23, Tryd.ntmps23
  go_wp2_with fail
  go_at_call 35
  with_reducible refine (known_yes 1 l _ (by omega) (by omega)).mono ?_
  rintro e w1 ⟨rfl, hb1⟩
  have hg1 : Gl w1 := (hg.alloc _).next hb1
  have e0 : w1.cell? ⟨w.heap.size, 0, none⟩ = some (.int .i64 1) := box_at _ _ _ _ 0 hb1
  have e1 : w1.cell? ⟨w.heap.size, 1, none⟩ = some (.int .i64 l) := box_at _ _ _ _ 1 hb1
  have c0 : w1.cell? ⟨0, 0, none⟩ = some (.int .i64 (-9223372036854775808)) := hg1.cell 0
  have c1 : w1.cell? ⟨0, 1, none⟩ = some (.int .i64 1) := hg1.cell 1
  have c2 : w1.cell? ⟨0, 2, none⟩ = some (.int .i64 0) := hg1.cell 2
  have hb2 : Below w.heap.size w w1 := below_next ((Below.refl w.heap.size w).alloc (Nat.le_refl _) _) hb1
  have hz : w.heap.size < w1.heap.size := Nat.lt_of_lt_of_le (by show w.heap.size < (w.heap.push _).size; simp) hb1.size
  have hz0 : 0 < w1.heap.size := hg1.lt
  clear hg hg1 hb1
  have h1 : decide (1 ≤ l) = false := decide_eq_false (by omega)
  go_wp2
  go_ret
  exact ⟨rfl, hb2.alloc hb2.size _⟩
set_option maxHeartbeats 2000000 in
set_option maxRecDepth 100000 in
theorem alarm_1y (l : Int) (hl : 1 ≤ l) : At 1 l true := by
  intro w hg
  go_enter Tryd.func23, Tryd.ntmps23
  go_wp2_with fail
  go_at_call 35
  with_reducible refine (known_yes 1 l _ (by omega) (by omega)).mono ?_
  rintro e w1 ⟨rfl, hb1⟩
  have hg1 : Gl w1 := (hg.alloc _).next hb1
  have e0 : w1.cell? ⟨w.heap.size, 0, none⟩ = some (.int .i64 1) := box_at _ _ _ _ 0 hb1
  have e1 : w1.cell? ⟨w.heap.size, 1, none⟩ = some (.int .i64 l) := box_at _ _ _ _ 1 hb1
  have c0 : w1.cell? ⟨0, 0, none⟩ = some (.int .i64 (-9223372036854775808)) := hg1.cell 0
  have c1 : w1.cell? ⟨0, 1, none⟩ = some (.int .i64 1) := hg1.cell 1
  have c2 : w1.cell? ⟨0, 2, none⟩ = some (.int .i64 0) := hg1.cell 2
  have hb2 : Below w.heap.size w w1 := below_next ((Below.refl w.heap.size w).alloc (Nat.le_refl _) _) hb1
  have hz : w.heap.size < w1.heap.size := Nat.lt_of_lt_of_le (by show w.heap.size < (w.heap.push _).size; simp) hb1.size
  have hz0 : 0 < w1.heap.size := hg1.lt
  clear hg hg1 hb1
  go_wp2
  go_ret
  exact ⟨rfl, hb2.alloc hb2.size _⟩
set_option maxHeartbeats 2000000 in
set_option maxRecDepth 100000 in
theorem alarm_2n (l : Int) (hl : ¬ 10 ≤ l) : At 2 l false := by
  intro w hg
  go_enter Tryd.func23, Tryd.ntmps23
  go_wp2_with fail
  go_at_call 35
  with_reducible refine (known_yes 2 l _ (by omega) (by omega)).mono ?_
  rintro e w1 ⟨rfl, hb1⟩
  have hg1 : Gl w1 := (hg.alloc _).next hb1
  have e0 : w1.cell? ⟨w.heap.size, 0, none⟩ = some (.int .i64 2) := box_at _ _ _ _ 0 hb1
  have e1 : w1.cell? ⟨w.heap.size, 1, none⟩ = some (.int .i64 l) := box_at _ _ _ _ 1 hb1
  have c0 : w1.cell? ⟨0, 3, none⟩ = some (.int .i64 (-9223372036854775808)) := hg1.cell 3
  have c1 : w1.cell? ⟨0, 4, none⟩ = some (.int .i64 10) := hg1.cell 4
  have c2 : w1.cell? ⟨0, 5, none⟩ = some (.int .i64 3) := hg1.cell 5
  have hb2 : Below w.heap.size w w1 := below_next ((Below.refl w.heap.size w).alloc (Nat.le_refl _) _) hb1
  have hz : w.heap.size < w1.heap.size := Nat.lt_of_lt_of_le (by show w.heap.size < (w.heap.push _).size; simp) hb1.size
  have hz0 : 0 < w1.heap.size := hg1.lt
  clear hg hg1 hb1
  have h1 : decide (10 ≤ l) = false := decide_eq_false (by omega)
  go_wp2
  go_ret
  exact ⟨rfl, hb2.alloc hb2.size _⟩
set_option maxHeartbeats 2000000 in
set_option maxRecDepth 100000 in
theorem alarm_2y (l : Int) (hl : 10 ≤ l) : At 2 l true := by
  intro w hg
  go_enter Tryd.func23, Tryd.ntmps23
  go_wp2_with fail
  go_at_call 35
  with_reducible refine (known_yes 2 l _ (by omega) (by omega)).mono ?_
  rintro e w1 ⟨rfl, hb1⟩
  have hg1 : Gl w1 := (hg.alloc _).next hb1
  have e0 : w1.cell? ⟨w.heap.size, 0, none⟩ = some (.int .i64 2) := box_at _ _ _ _ 0 hb1
  have e1 : w1.cell? ⟨w.heap.size, 1, none⟩ = some (.int .i64 l) := box_at _ _ _ _ 1 hb1
  have c0 : w1.cell? ⟨0, 3, none⟩ = some (.int .i64 (-9223372036854775808)) := hg1.cell 3
  have c1 : w1.cell? ⟨0, 4, none⟩ = some (.int .i64 10) := hg1.cell 4
  have c2 : w1.cell? ⟨0, 5, none⟩ = some (.int .i64 3) := hg1.cell 5
  have hb2 : Below w.heap.size w w1 := below_next ((Below.refl w.heap.size w).alloc (Nat.le_refl _) _) hb1
  have hz : w.heap.size < w1.heap.size := Nat.lt_of_lt_of_le (by show w.heap.size < (w.heap.push _).size; simp) hb1.size
  have hz0 : 0 < w1.heap.size := hg1.lt
  clear hg hg1 hb1
  go_wp2
  go_ret
  exact ⟨rfl, hb2.alloc hb2.size _⟩
set_option maxHeartbeats 2000000 in
set_option maxRecDepth 100000 in
theorem alarm_3h (l : Int) (hl : 100 ≤ l) : At 3 l true := by
  intro w hg
  go_enter Tryd.func23, Tryd.ntmps23
  go_wp2_with fail
  go_at_call 35
  with_reducible refine (known_yes 3 l _ (by omega) (by omega)).mono ?_
  rintro e w1 ⟨rfl, hb1⟩
  have hg1 : Gl w1 := (hg.alloc _).next hb1
  have e0 : w1.cell? ⟨w.heap.size, 0, none⟩ = some (.int .i64 3) := box_at _ _ _ _ 0 hb1
  have e1 : w1.cell? ⟨w.heap.size, 1, none⟩ = some (.int .i64 l) := box_at _ _ _ _ 1 hb1
  have c0 : w1.cell? ⟨0, 6, none⟩ = some (.int .i64 (-100)) := hg1.cell 6
  have c1 : w1.cell? ⟨0, 7, none⟩ = some (.int .i64 100) := hg1.cell 7
  have c2 : w1.cell? ⟨0, 8, none⟩ = some (.int .i64 1) := hg1.cell 8
  have hb2 : Below w.heap.size w w1 := below_next ((Below.refl w.heap.size w).alloc (Nat.le_refl _) _) hb1
  have hz : w.heap.size < w1.heap.size := Nat.lt_of_lt_of_le (by show w.heap.size < (w.heap.push _).size; simp) hb1.size
  have hz0 : 0 < w1.heap.size := hg1.lt
  clear hg hg1 hb1
  go_wp2
  go_ret
  exact ⟨rfl, hb2.alloc hb2.size _⟩
set_option maxHeartbeats 2000000 in
set_option maxRecDepth 100000 in
theorem alarm_3l (l : Int) (hl : l ≤ -100) : At 3 l true := by
  intro w hg
  go_enter Tryd.func23, Tryd.ntmps23
  go_wp2_with fail
  go_at_call 35
  with_reducible refine (known_yes 3 l _ (by omega) (by omega)).mono ?_
  rintro e w1 ⟨rfl, hb1⟩
  have hg1 : Gl w1 := (hg.alloc _).next hb1
  have e0 : w1.cell? ⟨w.heap.size, 0, none⟩ = some (.int .i64 3) := box_at _ _ _ _ 0 hb1
  have e1 : w1.cell? ⟨w.heap.size, 1, none⟩ = some (.int .i64 l) := box_at _ _ _ _ 1 hb1
  have c0 : w1.cell? ⟨0, 6, none⟩ = some (.int .i64 (-100)) := hg1.cell 6
  have c1 : w1.cell? ⟨0, 7, none⟩ = some (.int .i64 100) := hg1.cell 7
  have c2 : w1.cell? ⟨0, 8, none⟩ = some (.int .i64 1) := hg1.cell 8
  have hb2 : Below w.heap.size w w1 := below_next ((Below.refl w.heap.size w).alloc (Nat.le_refl _) _) hb1
  have hz : w.heap.size < w1.heap.size := Nat.lt_of_lt_of_le (by show w.heap.size < (w.heap.push _).size; simp) hb1.size
  have hz0 : 0 < w1.heap.size := hg1.lt
  clear hg hg1 hb1
  have h1 : decide (100 ≤ l) = false := decide_eq_false (by omega)
  go_wp2
  go_ret
  exact ⟨rfl, hb2.alloc hb2.size _⟩
set_option maxHeartbeats 2000000 in
set_option maxRecDepth 100000 in
theorem alarm_3n (l : Int) (hl : ¬ 100 ≤ l) (hk : ¬ l ≤ -100) : At 3 l false := by
  intro w hg
  go_enter Tryd.func23, Tryd.ntmps23
  go_wp2_with fail
  go_at_call 35
  with_reducible refine (known_yes 3 l _ (by omega) (by omega)).mono ?_
  rintro e w1 ⟨rfl, hb1⟩
  have hg1 : Gl w1 := (hg.alloc _).next hb1
  have e0 : w1.cell? ⟨w.heap.size, 0, none⟩ = some (.int .i64 3) := box_at _ _ _ _ 0 hb1
  have e1 : w1.cell? ⟨w.heap.size, 1, none⟩ = some (.int .i64 l) := box_at _ _ _ _ 1 hb1
  have c0 : w1.cell? ⟨0, 6, none⟩ = some (.int .i64 (-100)) := hg1.cell 6
  have c1 : w1.cell? ⟨0, 7, none⟩ = some (.int .i64 100) := hg1.cell 7
  have c2 : w1.cell? ⟨0, 8, none⟩ = some (.int .i64 1) := hg1.cell 8
  have hb2 : Below w.heap.size w w1 := below_next ((Below.refl w.heap.size w).alloc (Nat.le_refl _) _) hb1
  have hz : w.heap.size < w1.heap.size := Nat.lt_of_lt_of_le (by show w.heap.size < (w.heap.push _).size; simp) hb1.size
  have hz0 : 0 < w1.heap.size := hg1.lt
  clear hg hg1 hb1
  have h1 : decide (100 ≤ l) = false := decide_eq_false (by omega)
  have h2 : decide (l ≤ -100) = false := decide_eq_false (by omega)
  go_wp2
  go_ret
  exact ⟨rfl, hb2.alloc hb2.size _⟩
set_option maxHeartbeats 2000000 in
set_option maxRecDepth 100000 in
theorem alarm_4h (l : Int) (hl : 85 ≤ l) : At 4 l true := by
  intro w hg
  go_enter Tryd.func23, Tryd.ntmps23
  go_wp2_with fail
  go_at_call 35
  with_reducible refine (known_yes 4 l _ (by omega) (by omega)).mono ?_
  rintro e w1 ⟨rfl, hb1⟩
  have hg1 : Gl w1 := (hg.alloc _).next hb1
  have e0 : w1.cell? ⟨w.heap.size, 0, none⟩ = some (.int .i64 4) := box_at _ _ _ _ 0 hb1
  have e1 : w1.cell? ⟨w.heap.size, 1, none⟩ = some (.int .i64 l) := box_at _ _ _ _ 1 hb1
  have c0 : w1.cell? ⟨0, 9, none⟩ = some (.int .i64 (-40)) := hg1.cell 9
  have c1 : w1.cell? ⟨0, 10, none⟩ = some (.int .i64 85) := hg1.cell 10
  have c2 : w1.cell? ⟨0, 11, none⟩ = some (.int .i64 1) := hg1.cell 11
  have hb2 : Below w.heap.size w w1 := below_next ((Below.refl w.heap.size w).alloc (Nat.le_refl _) _) hb1
  have hz : w.heap.size < w1.heap.size := Nat.lt_of_lt_of_le (by show w.heap.size < (w.heap.push _).size; simp) hb1.size
  have hz0 : 0 < w1.heap.size := hg1.lt
  clear hg hg1 hb1
  go_wp2
  go_ret
  exact ⟨rfl, hb2.alloc hb2.size _⟩
set_option maxHeartbeats 2000000 in
set_option maxRecDepth 100000 in
theorem alarm_4l (l : Int) (hl : l ≤ -40) : At 4 l true := by
  intro w hg
  go_enter Tryd.func23, Tryd.ntmps23
  go_wp2_with fail
  go_at_call 35
  with_reducible refine (known_yes 4 l _ (by omega) (by omega)).mono ?_
  rintro e w1 ⟨rfl, hb1⟩
  have hg1 : Gl w1 := (hg.alloc _).next hb1
  have e0 : w1.cell? ⟨w.heap.size, 0, none⟩ = some (.int .i64 4) := box_at _ _ _ _ 0 hb1
  have e1 : w1.cell? ⟨w.heap.size, 1, none⟩ = some (.int .i64 l) := box_at _ _ _ _ 1 hb1
  have c0 : w1.cell? ⟨0, 9, none⟩ = some (.int .i64 (-40)) := hg1.cell 9
  have c1 : w1.cell? ⟨0, 10, none⟩ = some (.int .i64 85) := hg1.cell 10
  have c2 : w1.cell? ⟨0, 11, none⟩ = some (.int .i64 1) := hg1.cell 11
  have hb2 : Below w.heap.size w w1 := below_next ((Below.refl w.heap.size w).alloc (Nat.le_refl _) _) hb1
  have hz : w.heap.size < w1.heap.size := Nat.lt_of_lt_of_le (by show w.heap.size < (w.heap.push _).size; simp) hb1.size
  have hz0 : 0 < w1.heap.size := hg1.lt
  clear hg hg1 hb1
  have h1 : decide (85 ≤ l) = false := decide_eq_false (by omega)
  go_wp2
  go_ret
  exact ⟨rfl, hb2.alloc hb2.size _⟩
set_option maxHeartbeats 2000000 in
set_option maxRecDepth 100000 in
theorem alarm_4n (l : Int) (hl : ¬ 85 ≤ l) (hk : ¬ l ≤ -40) : At 4 l false := by
  intro w hg
  go_enter Tryd.func23, Tryd.ntmps23
  go_wp2_with fail
  go_at_call 35
  with_reducible refine (known_yes 4 l _ (by omega) (by omega)).mono ?_
  rintro e w1 ⟨rfl, hb1⟩
  have hg1 : Gl w1 := (hg.alloc _).next hb1
  have e0 : w1.cell? ⟨w.heap.size, 0, none⟩ = some (.int .i64 4) := box_at _ _ _ _ 0 hb1
  have e1 : w1.cell? ⟨w.heap.size, 1, none⟩ = some (.int .i64 l) := box_at _ _ _ _ 1 hb1
  have c0 : w1.cell? ⟨0, 9, none⟩ = some (.int .i64 (-40)) := hg1.cell 9
  have c1 : w1.cell? ⟨0, 10, none⟩ = some (.int .i64 85) := hg1.cell 10
  have c2 : w1.cell? ⟨0, 11, none⟩ = some (.int .i64 1) := hg1.cell 11
  have hb2 : Below w.heap.size w w1 := below_next ((Below.refl w.heap.size w).alloc (Nat.le_refl _) _) hb1
  have hz : w.heap.size < w1.heap.size := Nat.lt_of_lt_of_le (by show w.heap.size < (w.heap.push _).size; simp) hb1.size
  have hz0 : 0 < w1.heap.size := hg1.lt
  clear hg hg1 hb1
  have h1 : decide (85 ≤ l) = false := decide_eq_false (by omega)
  have h2 : decide (l ≤ -40) = false := decide_eq_false (by omega)
  go_wp2
  go_ret
  exact ⟨rfl, hb2.alloc hb2.size _⟩
theorem alarm_known (s l : Int) (h0 : 1 ≤ s) (h1 : s ≤ 4) : At s l (alarm s l) := by
  have hs : s = 1 ∨ s = 2 ∨ s = 3 ∨ s = 4 := by omega
  rcases hs with rfl | rfl | rfl | rfl
  · by_cases h : 1 ≤ l
    · rw [show alarm 1 l = true by simp [alarm, h]]; exact alarm_1y l h
    · rw [show alarm 1 l = false by simp [alarm]; omega]; exact alarm_1n l h
  · by_cases h : 10 ≤ l
    · rw [show alarm 2 l = true by simp [alarm, h]]; exact alarm_2y l h
    · rw [show alarm 2 l = false by simp [alarm]; omega]; exact alarm_2n l h
  · by_cases h : 100 ≤ l
    · rw [show alarm 3 l = true by simp [alarm, h]]; exact alarm_3h l h
    · by_cases hk : l ≤ -100
      · rw [show alarm 3 l = true by simp [alarm, hk]]; exact alarm_3l l hk
      · rw [show alarm 3 l = false by simp [alarm]; omega]; exact alarm_3n l h hk
  · by_cases h : 85 ≤ l
    · rw [show alarm 4 l = true by simp [alarm, h]]; exact alarm_4h l h
    · by_cases hk : l ≤ -40
      · rw [show alarm 4 l = true by simp [alarm, hk]]; exact alarm_4l l hk
      · rw [show alarm 4 l = false by simp [alarm]; omega]; exact alarm_4n l h hk
end Go.Proofs.YtjainkepgmdkiaaDoor.Tc
