/-
  The quarter rounds: a block of sixteen words, and the walks of the four-word steps of the code and of the specification.
-/
import Derived.Test.YtpojbjldboknmaaRa
import Derived.Test.YtpojbjldboknmaaQ
import Derived.StillTailTactics
import Derived.BigQuiet
namespace Go.Proofs.Ytpojbjldboknmaa.Qa
open Go.RowKit Go.Proofs.Ytpojbjldboknmaa.B Go.Proofs.Ytpojbjldboknmaa.Ra

/-- The words as values. -/
def ws (l : List Nat) : Array Value := (l.map fun n => Value.int .u32 ((n : Nat) : Int)).toArray
def gt (l : List Nat) (i : Nat) : Nat := l.getD i 0
/-- Sixteen words of 32 bits. -/
def Fit (l : List Nat) : Prop := l.length = 16 ∧ ∀ x ∈ l, x < 4294967296
theorem gt_lt {l : List Nat} (h : Fit l) (i : Nat) : gt l i < 4294967296 := by
  unfold gt
  rw [List.getD_eq_getElem?_getD]
  cases hc : l[i]? with
  | none => simp
  | some v => exact h.2 v (List.mem_of_getElem? hc)
theorem fit_set {l : List Nat} (h : Fit l) (i v : Nat) (hv : v < 4294967296) : Fit (l.set i v) :=
  ⟨by rw [List.length_set]; exact h.1, fun x hx => by
    rcases List.mem_or_eq_of_mem_set hx with hx | rfl
    · exact h.2 x hx
    · exact hv⟩
theorem ws_get {l : List Nat} {i : Nat} (h : i < l.length) : (ws l)[i]? = some (.int .u32 ((gt l i : Nat) : Int)) := by simp [ws, gt, h]
theorem ws_set (l : List Nat) (i v : Nat) : (ws l).setIfInBounds i (.int .u32 ((v : Nat) : Int)) = ws (l.set i v) := by simp [ws, List.map_set]
theorem ws_size (l : List Nat) : (ws l).size = l.length := by simp [ws]
/-- Block g holds the words. -/
def St (w : World) (g : Nat) (l : List Nat) : Prop := Fit l ∧ Blk w g 23 (ws l)
section
variable {w w' : World} {g : Nat} {l : List Nat}
theorem St.cell (h : St w g l) {i : Nat} (hi : i < 16) : w.cell? ⟨g, i, none⟩ = some (.int .u32 ((gt l i : Nat) : Int)) := (h.2.cell i).trans (ws_get (by rw [h.1.1]; exact hi))
theorem St.frozen (h : St w g l) (i : Nat) : w.frozen? ⟨g, i, none⟩ = false := h.2.frozen i
theorem St.drewN (h : St w g l) (n : Nat) : St (w.drewN n) g l := ⟨h.1, h.2.drewN n⟩
theorem St.put (h : St w g l) (i v : Nat) (hv : v < 4294967296) : St (w.setCell ⟨g, i, none⟩ (.int .u32 ((v : Nat) : Int))) g (l.set i v) := ⟨fit_set h.1 i v hv, by have h2 := h.2.put i (.int .u32 ((v : Nat) : Int)); rwa [ws_set] at h2⟩
theorem St.lt (h : St w g l) : g < w.heap.size := h.2.lt
theorem St.below {B : Nat} (h : St w g l) (hb : Below B w w') (hg : g < B) : St w' g l := ⟨h.1, h.2.below hb hg⟩
end
/-- Word i becomes its sum with word j. -/
def addTo (l : List Nat) (i j : Nat) : List Nat := l.set i ((gt l i + gt l j) % 4294967296)
/-- Word i becomes its difference from word j, turned. -/
def turnTo (l : List Nat) (i j n : Nat) : List Nat := l.set i (rot (gt l i ^^^ gt l j) n)
theorem addTo_fit {l : List Nat} (h : Fit l) (i j : Nat) : Fit (addTo l i j) := fit_set h _ _ (Nat.mod_lt _ (by omega))
theorem turnTo_fit {l : List Nat} (h : Fit l) (i j n : Nat) (hn : n ∈ [7, 8, 12, 16, 20, 24, 25]) : Fit (turnTo l i j n) := fit_set h _ _ (rot_lt _ _ (xor_lt32 _ _ (gt_lt h i) (gt_lt h j)) hn)
/-- A quarter round. -/
def qr (l : List Nat) (a b c d : Nat) : List Nat :=
  turnTo (addTo (turnTo (addTo (turnTo (addTo (turnTo (addTo l a b) d a 16) c d) b c 12) a b) d a 8) c d) b c 7

theorem step_add {w : World} {g : Nat} {l : List Nat} (h : St w g l) (m i j : Nat) : St ((w.drewN m).setCell ⟨g, i, none⟩ (.int .u32 (((gt l i + gt l j) % 4294967296 : Nat) : Int))) g (addTo l i j) := (h.drewN m).put i _ (Nat.mod_lt _ (by omega))
theorem step_turn {w : World} {g : Nat} {l : List Nat} (h : St w g l) (m i j n : Nat) (hn : n ∈ [7, 8, 12, 16, 20, 24, 25]) : St ((w.drewN m).setCell ⟨g, i, none⟩ (.int .u32 ((rot (gt l i ^^^ gt l j) n : Nat) : Int))) g (turnTo l i j n) := (h.drewN m).put i _ (rot_lt _ _ (xor_lt32 _ _ (gt_lt h.1 i) (gt_lt h.1 j)) hn)
theorem far_set {w : World} {g g2 : Nat} {cs : Array Value} (h : Blk w g2 23 cs) (m : Nat) (hne : g2 ≠ g) (i : Nat) (v : Value) : Blk ((w.drewN m).setCell ⟨g, i, none⟩ v) g2 23 cs := (h.drewN m).far hne v
theorem step_below {B : Nat} {w0 w : World} (h : Below B w0 w) (m : Nat) {g : Nat} (hg : B ≤ g) (i : Nat) (v : Value) : Below B w0 ((w.drewN m).setCell ⟨g, i, none⟩ v) := (below_drewN h m).setCell hg v

set_option maxHeartbeats 4000000 in
set_option maxRecDepth 100000 in
theorem quarter_walk (g a b c d : Nat) (l : List Nat) (w : World) (h : St w g l) (ha : a < 16) (hb : b < 16) (hc : c < 16) (hd : d < 16) (B : Nat) (hB : B ≤ g) (g2 : Nat) (cs : Array Value) (hne : g2 ≠ g) (hz : Blk w g2 23 cs) :
    Calls Try.prog 23 #[.pointer (some ⟨g, a, none⟩), .pointer (some ⟨g, b, none⟩), .pointer (some ⟨g, c, none⟩), .pointer (some ⟨g, d, none⟩)] w fun e w' => e = .returned (.tuple #[]) ∧ St w' g (qr l a b c d) ∧ Below B w w' ∧ Blk w' g2 23 cs := by
  have h0 : Below B w w := Below.refl _ _
  go_enter Try.func23, Try.ntmps23
  obtain ⟨x1, hx1⟩ : ∃ v, gt l a = v := ⟨_, rfl⟩
  obtain ⟨x2, hx2⟩ : ∃ v, gt l b = v := ⟨_, rfl⟩
  have c1 := h.cell ha
  have c2 := h.cell hb
  have f1 := h.frozen a
  have l1 := gt_lt h.1 a
  have l2 := gt_lt h.1 b
  rw [hx1] at c1 l1
  rw [hx2] at c2 l2
  obtain ⟨v, hv⟩ : ∃ v, (x1 + x2) % 4294967296 = v := ⟨_, rfl⟩
  have e1 : ((x1 : Int) + (x2 : Int)) % 4294967296 = (v : Int) := by omega
  have h' : ∀ m, St ((w.drewN m).setCell ⟨g, a, none⟩ (.int .u32 (v : Int))) g (addTo l a b) := fun m => by
    have h2 := step_add h m a b
    rwa [hx1, hx2, hv] at h2
  go_wp2
  refine Q.wp_quiet_tail 8 (by kernel_rfl) (by kernel_rfl) ?_
  simp only [List.take_succ_cons, List.take_zero, List.drop_succ_cons, List.drop_zero]
  repeat go_big_quiet_step (fail)
  refine wpQuiet_nil ?_
  intro _ hw'
  obtain ⟨m, rfl⟩ := hw'
  go_wp2
  simp only [e1]
  have h2 := h' m
  have h3 := step_below h0 m hB a (.int .u32 (v : Int))
  have h4 := far_set hz m hne a (.int .u32 (v : Int))
  clear h h0 hz c1 c2 f1 l1 l2 e1 hv hx1 hx2 h'
  generalize (w.drewN m).setCell ⟨g, a, none⟩ (.int .u32 (v : Int)) = w0 at h2 h3 h4 ⊢
  have h := h2
  have h0 := h3
  have hz := h4
  clear h2 h3 h4
  obtain ⟨L1, hL1⟩ : ∃ v, addTo l a b = v := ⟨_, rfl⟩
  rw [hL1] at h
  obtain ⟨x1, hx1⟩ : ∃ v, gt L1 d = v := ⟨_, rfl⟩
  obtain ⟨x2, hx2⟩ : ∃ v, gt L1 a = v := ⟨_, rfl⟩
  have c1 := h.cell hd
  have c2 := h.cell ha
  have f1 := h.frozen d
  have l1 := gt_lt h.1 d
  have l2 := gt_lt h.1 a
  rw [hx1] at c1 l1
  rw [hx2] at c2 l2
  have l3 := xor_lt32 x1 x2 l1 l2
  have e1 := u32_xor_nat x1 x2 l1 l2
  have h' : ∀ m, St ((w0.drewN m).setCell ⟨g, d, none⟩ (.int .u32 (rot (x1 ^^^ x2) 16 : Nat))) g (turnTo L1 d a 16) := fun m => by
    have h2 := step_turn h m d a 16 (by decide)
    rwa [hx1, hx2] at h2
  generalize x1 ^^^ x2 = v at l3 e1 h'
  go_wp2
  refine Q.wp_quiet_tail 10 (by kernel_rfl) (by kernel_rfl) ?_
  simp only [List.take_succ_cons, List.take_zero, List.drop_succ_cons, List.drop_zero]
  repeat go_big_quiet_step ((go_at_call 27; exact Calls.quiet_of_same (rotate_still v 16 _ l3 (by decide) rfl)))
  refine wpQuiet_nil ?_
  intro _ hw'
  obtain ⟨m, rfl⟩ := hw'
  go_wp2

  have h2 := h' m
  have h3 := step_below h0 m hB d (.int .u32 ((rot v 16 : Nat) : Int))
  have h4 := far_set hz m hne d (.int .u32 ((rot v 16 : Nat) : Int))
  clear h h0 hz c1 c2 f1 l1 l2 e1 l3 hx1 hx2 h'
  generalize (w0.drewN m).setCell ⟨g, d, none⟩ (.int .u32 ((rot v 16 : Nat) : Int)) = w1 at h2 h3 h4 ⊢
  have h := h2
  have h0 := h3
  have hz := h4
  clear h2 h3 h4
  obtain ⟨L2, hL2⟩ : ∃ v, turnTo L1 d a 16 = v := ⟨_, rfl⟩
  rw [hL2] at h
  obtain ⟨x1, hx1⟩ : ∃ v, gt L2 c = v := ⟨_, rfl⟩
  obtain ⟨x2, hx2⟩ : ∃ v, gt L2 d = v := ⟨_, rfl⟩
  have c1 := h.cell hc
  have c2 := h.cell hd
  have f1 := h.frozen c
  have l1 := gt_lt h.1 c
  have l2 := gt_lt h.1 d
  rw [hx1] at c1 l1
  rw [hx2] at c2 l2
  obtain ⟨v, hv⟩ : ∃ v, (x1 + x2) % 4294967296 = v := ⟨_, rfl⟩
  have e1 : ((x1 : Int) + (x2 : Int)) % 4294967296 = (v : Int) := by omega
  have h' : ∀ m, St ((w1.drewN m).setCell ⟨g, c, none⟩ (.int .u32 (v : Int))) g (addTo L2 c d) := fun m => by
    have h2 := step_add h m c d
    rwa [hx1, hx2, hv] at h2
  go_wp2
  refine Q.wp_quiet_tail 8 (by kernel_rfl) (by kernel_rfl) ?_
  simp only [List.take_succ_cons, List.take_zero, List.drop_succ_cons, List.drop_zero]
  repeat go_big_quiet_step (fail)
  refine wpQuiet_nil ?_
  intro _ hw'
  obtain ⟨m, rfl⟩ := hw'
  go_wp2
  simp only [e1]
  have h2 := h' m
  have h3 := step_below h0 m hB c (.int .u32 (v : Int))
  have h4 := far_set hz m hne c (.int .u32 (v : Int))
  clear h h0 hz c1 c2 f1 l1 l2 e1 hv hx1 hx2 h'
  generalize (w1.drewN m).setCell ⟨g, c, none⟩ (.int .u32 (v : Int)) = w2 at h2 h3 h4 ⊢
  have h := h2
  have h0 := h3
  have hz := h4
  clear h2 h3 h4
  obtain ⟨L3, hL3⟩ : ∃ v, addTo L2 c d = v := ⟨_, rfl⟩
  rw [hL3] at h
  obtain ⟨x1, hx1⟩ : ∃ v, gt L3 b = v := ⟨_, rfl⟩
  obtain ⟨x2, hx2⟩ : ∃ v, gt L3 c = v := ⟨_, rfl⟩
  have c1 := h.cell hb
  have c2 := h.cell hc
  have f1 := h.frozen b
  have l1 := gt_lt h.1 b
  have l2 := gt_lt h.1 c
  rw [hx1] at c1 l1
  rw [hx2] at c2 l2
  have l3 := xor_lt32 x1 x2 l1 l2
  have e1 := u32_xor_nat x1 x2 l1 l2
  have h' : ∀ m, St ((w2.drewN m).setCell ⟨g, b, none⟩ (.int .u32 (rot (x1 ^^^ x2) 12 : Nat))) g (turnTo L3 b c 12) := fun m => by
    have h2 := step_turn h m b c 12 (by decide)
    rwa [hx1, hx2] at h2
  generalize x1 ^^^ x2 = v at l3 e1 h'
  go_wp2
  refine Q.wp_quiet_tail 10 (by kernel_rfl) (by kernel_rfl) ?_
  simp only [List.take_succ_cons, List.take_zero, List.drop_succ_cons, List.drop_zero]
  repeat go_big_quiet_step ((go_at_call 27; exact Calls.quiet_of_same (rotate_still v 12 _ l3 (by decide) rfl)))
  refine wpQuiet_nil ?_
  intro _ hw'
  obtain ⟨m, rfl⟩ := hw'
  go_wp2

  have h2 := h' m
  have h3 := step_below h0 m hB b (.int .u32 ((rot v 12 : Nat) : Int))
  have h4 := far_set hz m hne b (.int .u32 ((rot v 12 : Nat) : Int))
  clear h h0 hz c1 c2 f1 l1 l2 e1 l3 hx1 hx2 h'
  generalize (w2.drewN m).setCell ⟨g, b, none⟩ (.int .u32 ((rot v 12 : Nat) : Int)) = w3 at h2 h3 h4 ⊢
  have h := h2
  have h0 := h3
  have hz := h4
  clear h2 h3 h4
  obtain ⟨L4, hL4⟩ : ∃ v, turnTo L3 b c 12 = v := ⟨_, rfl⟩
  rw [hL4] at h
  obtain ⟨x1, hx1⟩ : ∃ v, gt L4 a = v := ⟨_, rfl⟩
  obtain ⟨x2, hx2⟩ : ∃ v, gt L4 b = v := ⟨_, rfl⟩
  have c1 := h.cell ha
  have c2 := h.cell hb
  have f1 := h.frozen a
  have l1 := gt_lt h.1 a
  have l2 := gt_lt h.1 b
  rw [hx1] at c1 l1
  rw [hx2] at c2 l2
  obtain ⟨v, hv⟩ : ∃ v, (x1 + x2) % 4294967296 = v := ⟨_, rfl⟩
  have e1 : ((x1 : Int) + (x2 : Int)) % 4294967296 = (v : Int) := by omega
  have h' : ∀ m, St ((w3.drewN m).setCell ⟨g, a, none⟩ (.int .u32 (v : Int))) g (addTo L4 a b) := fun m => by
    have h2 := step_add h m a b
    rwa [hx1, hx2, hv] at h2
  go_wp2
  refine Q.wp_quiet_tail 8 (by kernel_rfl) (by kernel_rfl) ?_
  simp only [List.take_succ_cons, List.take_zero, List.drop_succ_cons, List.drop_zero]
  repeat go_big_quiet_step (fail)
  refine wpQuiet_nil ?_
  intro _ hw'
  obtain ⟨m, rfl⟩ := hw'
  go_wp2
  simp only [e1]
  have h2 := h' m
  have h3 := step_below h0 m hB a (.int .u32 (v : Int))
  have h4 := far_set hz m hne a (.int .u32 (v : Int))
  clear h h0 hz c1 c2 f1 l1 l2 e1 hv hx1 hx2 h'
  generalize (w3.drewN m).setCell ⟨g, a, none⟩ (.int .u32 (v : Int)) = w4 at h2 h3 h4 ⊢
  have h := h2
  have h0 := h3
  have hz := h4
  clear h2 h3 h4
  obtain ⟨L5, hL5⟩ : ∃ v, addTo L4 a b = v := ⟨_, rfl⟩
  rw [hL5] at h
  obtain ⟨x1, hx1⟩ : ∃ v, gt L5 d = v := ⟨_, rfl⟩
  obtain ⟨x2, hx2⟩ : ∃ v, gt L5 a = v := ⟨_, rfl⟩
  have c1 := h.cell hd
  have c2 := h.cell ha
  have f1 := h.frozen d
  have l1 := gt_lt h.1 d
  have l2 := gt_lt h.1 a
  rw [hx1] at c1 l1
  rw [hx2] at c2 l2
  have l3 := xor_lt32 x1 x2 l1 l2
  have e1 := u32_xor_nat x1 x2 l1 l2
  have h' : ∀ m, St ((w4.drewN m).setCell ⟨g, d, none⟩ (.int .u32 (rot (x1 ^^^ x2) 8 : Nat))) g (turnTo L5 d a 8) := fun m => by
    have h2 := step_turn h m d a 8 (by decide)
    rwa [hx1, hx2] at h2
  generalize x1 ^^^ x2 = v at l3 e1 h'
  go_wp2
  refine Q.wp_quiet_tail 10 (by kernel_rfl) (by kernel_rfl) ?_
  simp only [List.take_succ_cons, List.take_zero, List.drop_succ_cons, List.drop_zero]
  repeat go_big_quiet_step ((go_at_call 27; exact Calls.quiet_of_same (rotate_still v 8 _ l3 (by decide) rfl)))
  refine wpQuiet_nil ?_
  intro _ hw'
  obtain ⟨m, rfl⟩ := hw'
  go_wp2

  have h2 := h' m
  have h3 := step_below h0 m hB d (.int .u32 ((rot v 8 : Nat) : Int))
  have h4 := far_set hz m hne d (.int .u32 ((rot v 8 : Nat) : Int))
  clear h h0 hz c1 c2 f1 l1 l2 e1 l3 hx1 hx2 h'
  generalize (w4.drewN m).setCell ⟨g, d, none⟩ (.int .u32 ((rot v 8 : Nat) : Int)) = w5 at h2 h3 h4 ⊢
  have h := h2
  have h0 := h3
  have hz := h4
  clear h2 h3 h4
  obtain ⟨L6, hL6⟩ : ∃ v, turnTo L5 d a 8 = v := ⟨_, rfl⟩
  rw [hL6] at h
  obtain ⟨x1, hx1⟩ : ∃ v, gt L6 c = v := ⟨_, rfl⟩
  obtain ⟨x2, hx2⟩ : ∃ v, gt L6 d = v := ⟨_, rfl⟩
  have c1 := h.cell hc
  have c2 := h.cell hd
  have f1 := h.frozen c
  have l1 := gt_lt h.1 c
  have l2 := gt_lt h.1 d
  rw [hx1] at c1 l1
  rw [hx2] at c2 l2
  obtain ⟨v, hv⟩ : ∃ v, (x1 + x2) % 4294967296 = v := ⟨_, rfl⟩
  have e1 : ((x1 : Int) + (x2 : Int)) % 4294967296 = (v : Int) := by omega
  have h' : ∀ m, St ((w5.drewN m).setCell ⟨g, c, none⟩ (.int .u32 (v : Int))) g (addTo L6 c d) := fun m => by
    have h2 := step_add h m c d
    rwa [hx1, hx2, hv] at h2
  go_wp2
  refine Q.wp_quiet_tail 8 (by kernel_rfl) (by kernel_rfl) ?_
  simp only [List.take_succ_cons, List.take_zero, List.drop_succ_cons, List.drop_zero]
  repeat go_big_quiet_step (fail)
  refine wpQuiet_nil ?_
  intro _ hw'
  obtain ⟨m, rfl⟩ := hw'
  go_wp2
  simp only [e1]
  have h2 := h' m
  have h3 := step_below h0 m hB c (.int .u32 (v : Int))
  have h4 := far_set hz m hne c (.int .u32 (v : Int))
  clear h h0 hz c1 c2 f1 l1 l2 e1 hv hx1 hx2 h'
  generalize (w5.drewN m).setCell ⟨g, c, none⟩ (.int .u32 (v : Int)) = w6 at h2 h3 h4 ⊢
  have h := h2
  have h0 := h3
  have hz := h4
  clear h2 h3 h4
  obtain ⟨L7, hL7⟩ : ∃ v, addTo L6 c d = v := ⟨_, rfl⟩
  rw [hL7] at h
  obtain ⟨x1, hx1⟩ : ∃ v, gt L7 b = v := ⟨_, rfl⟩
  obtain ⟨x2, hx2⟩ : ∃ v, gt L7 c = v := ⟨_, rfl⟩
  have c1 := h.cell hb
  have c2 := h.cell hc
  have f1 := h.frozen b
  have l1 := gt_lt h.1 b
  have l2 := gt_lt h.1 c
  rw [hx1] at c1 l1
  rw [hx2] at c2 l2
  have l3 := xor_lt32 x1 x2 l1 l2
  have e1 := u32_xor_nat x1 x2 l1 l2
  have h' : ∀ m, St ((w6.drewN m).setCell ⟨g, b, none⟩ (.int .u32 (rot (x1 ^^^ x2) 7 : Nat))) g (turnTo L7 b c 7) := fun m => by
    have h2 := step_turn h m b c 7 (by decide)
    rwa [hx1, hx2] at h2
  generalize x1 ^^^ x2 = v at l3 e1 h'
  go_wp2
  refine Q.wp_quiet_tail 10 (by kernel_rfl) (by kernel_rfl) ?_
  simp only [List.take_succ_cons, List.take_zero, List.drop_succ_cons, List.drop_zero]
  repeat go_big_quiet_step ((go_at_call 27; exact Calls.quiet_of_same (rotate_still v 7 _ l3 (by decide) rfl)))
  refine wpQuiet_nil ?_
  intro _ hw'
  obtain ⟨m, rfl⟩ := hw'
  go_wp2

  have h2 := h' m
  have h3 := step_below h0 m hB b (.int .u32 ((rot v 7 : Nat) : Int))
  have h4 := far_set hz m hne b (.int .u32 ((rot v 7 : Nat) : Int))
  clear h h0 hz c1 c2 f1 l1 l2 e1 l3 hx1 hx2 h'
  generalize (w6.drewN m).setCell ⟨g, b, none⟩ (.int .u32 ((rot v 7 : Nat) : Int)) = w7 at h2 h3 h4 ⊢
  have h := h2
  have h0 := h3
  have hz := h4
  clear h2 h3 h4
  obtain ⟨L8, hL8⟩ : ∃ v, turnTo L7 b c 7 = v := ⟨_, rfl⟩
  rw [hL8] at h
  have hq : qr l a b c d = L8 := by unfold qr; rw [hL1, hL2, hL3, hL4, hL5, hL6, hL7, hL8]
  rw [← hq] at h
  refine bodyPost_end (results_none rfl _ _ _) rfl ?_
  exact ⟨rfl, h, h0, hz⟩
end Go.Proofs.Ytpojbjldboknmaa.Qa
