/-
  The quarter round of the specification and its inverse: the walks.
-/
import Derived.Test.YtpojbjldboknmaaQa
import Derived.Laws.Tables
namespace Go.Proofs.Ytpojbjldboknmaa.Qb
open Go.RowKit Go.Proofs.Ytpojbjldboknmaa.B Go.Proofs.Ytpojbjldboknmaa.Ra Go.Proofs.Ytpojbjldboknmaa.Qa

/-- A row of nothing. -/
def zs : Array Value := #[.int .u32 0, .int .u32 0, .int .u32 0, .int .u32 0, .int .u32 0, .int .u32 0, .int .u32 0, .int .u32 0, .int .u32 0, .int .u32 0, .int .u32 0, .int .u32 0, .int .u32 0, .int .u32 0, .int .u32 0, .int .u32 0]
/-- Word i becomes its difference. -/
def subFrom (l : List Nat) (i j : Nat) : List Nat := l.set i ((gt l i + (4294967296 - gt l j)) % 4294967296)
/-- Word i is turned, then differs from word j. -/
def turnBack (l : List Nat) (i j n : Nat) : List Nat := l.set i (rot (gt l i) n ^^^ gt l j)
def un (l : List Nat) (a b c d : Nat) : List Nat :=
  subFrom (turnBack (subFrom (turnBack (subFrom (turnBack (subFrom (turnBack l b c 25) c d) d a 24) a b) b c 20) c d) d a 16) a b
theorem step_sub {w : World} {g : Nat} {l : List Nat} (h : St w g l) (m i j : Nat) : St ((w.drewN m).setCell ⟨g, i, none⟩ (.int .u32 (((gt l i + (4294967296 - gt l j)) % 4294967296 : Nat) : Int))) g (subFrom l i j) := (h.drewN m).put i _ (Nat.mod_lt _ (by omega))
theorem step_back {w : World} {g : Nat} {l : List Nat} (h : St w g l) (m i j n : Nat) (hn : n ∈ [7, 8, 12, 16, 20, 24, 25]) : St ((w.drewN m).setCell ⟨g, i, none⟩ (.int .u32 ((rot (gt l i) n ^^^ gt l j : Nat) : Int))) g (turnBack l i j n) := (h.drewN m).put i _ (xor_lt32 _ _ (rot_lt _ _ (gt_lt h.1 i) hn) (gt_lt h.1 j))
theorem below_setRow {B g : Nat} {a w : World} (h : Below B a w) (hg : B ≤ g) (cs : Array Value) : Below B a (w.setRow g cs) := h.trans ⟨rfl, rfl, rfl, by simp [World.setRow], fun k hk => setRow_other w g k cs (by omega)⟩

set_option maxHeartbeats 8000000 in
set_option maxRecDepth 100000 in
theorem ref_quarter_walk (l : List Nat) (a b c d : Nat) (w : World) (hl : Fit l) (ha : a < 16) (hb : b < 16) (hc : c < 16) (hd : d < 16) :
    Calls Try.prog 25 #[.agg (ws l), .int .i64 (a : Int), .int .i64 (b : Int), .int .i64 (c : Int), .int .i64 (d : Int)] w fun e w' => e = .returned (.agg (ws (qr l a b c d))) ∧ Below w.heap.size w w' := by
  have h : St ((w.alloc (.cells (ws l) 23)).alloc (.cells zs 23)) w.heap.size l := ⟨hl, (Blk.new w 23 (ws l)).alloc _⟩
  have hz : Blk ((w.alloc (.cells (ws l) 23)).alloc (.cells zs 23)) (w.heap.size + 1) 23 zs := heap_alloc2_new w _ _
  have h0 : Below w.heap.size w ((w.alloc (.cells (ws l) 23)).alloc (.cells zs 23)) := ((Below.refl _ _).alloc (Nat.le_refl _) _).alloc (by show w.heap.size ≤ (w.heap.push _).size; simp) _
  go_enter Try.func25, Try.ntmps25
  have za : (a : Int) < 16 := by omega
  have zb : (b : Int) < 16 := by omega
  have zc : (c : Int) < 16 := by omega
  have zd : (d : Int) < 16 := by omega
  have ya : IntKind.i64.wrap (a : Int) = a := IntWalk.i64_in _ (by omega)
  have yb : IntKind.i64.wrap (b : Int) = b := IntWalk.i64_in _ (by omega)
  have yc : IntKind.i64.wrap (c : Int) = c := IntWalk.i64_in _ (by omega)
  have yd : IntKind.i64.wrap (d : Int) = d := IntWalk.i64_in _ (by omega)
  go_wp2
  change Code.wp _ _ _ _ ((w.alloc (.cells (ws l) 23)).alloc (.cells zs 23))
  generalize (w.alloc (.cells (ws l) 23)).alloc (.cells zs 23) = wz at h hz h0 ⊢
  have hB : w.heap.size ≤ w.heap.size := Nat.le_refl _
  have hne : w.heap.size + 1 ≠ w.heap.size := by omega
  generalize hg : w.heap.size = g at h hz h0 hB hne ⊢
  obtain ⟨x1, hx1⟩ : ∃ v, gt l a = v := ⟨_, rfl⟩
  obtain ⟨x2, hx2⟩ : ∃ v, gt l b = v := ⟨_, rfl⟩
  have c1 := h.cell ha
  have c2 := h.cell hb
  have f1 := h.frozen a
  have l1 := gt_lt h.1 a
  have l2 := gt_lt h.1 b
  rw [hx1] at c1 l1
  rw [hx2] at c2 l2
  obtain ⟨v, hv⟩ : ∃ v, (x1 + x2) % 4294967296 = v := ⟨_, rfl⟩
  have e1 : ((x1 : Int) + (x2 : Int)) % 4294967296 = (v : Int) := by omega
  have h' : ∀ m, St ((wz.drewN m).setCell ⟨g, a, none⟩ (.int .u32 (v : Int))) g (addTo l a b) := fun m => by
    have h2 := step_add h m a b
    rwa [hx1, hx2, hv] at h2
  go_wp2
  refine Q.wp_quiet_tail 9 (by kernel_rfl) (by kernel_rfl) ?_
  simp only [List.take_succ_cons, List.take_zero, List.drop_succ_cons, List.drop_zero]
  repeat go_big_quiet_step (fail)
  refine wpQuiet_nil ?_
  intro _ hw'
  obtain ⟨m, rfl⟩ := hw'
  go_wp2
  simp only [e1]
  have h2 := h' m
  have h3 := step_below h0 m hB a (.int .u32 (v : Int))
  have h4 := far_set hz m hne a (.int .u32 (v : Int))
  clear h h0 hz c1 c2 f1 l1 l2 e1 hv hx1 hx2 h'
  generalize (wz.drewN m).setCell ⟨g, a, none⟩ (.int .u32 (v : Int)) = w0 at h2 h3 h4 ⊢
  have h := h2
  have h0 := h3
  have hz := h4
  clear h2 h3 h4
  obtain ⟨L1, hL1⟩ : ∃ v, addTo l a b = v := ⟨_, rfl⟩
  rw [hL1] at h
  obtain ⟨x1, hx1⟩ : ∃ v, gt L1 d = v := ⟨_, rfl⟩
  obtain ⟨x2, hx2⟩ : ∃ v, gt L1 a = v := ⟨_, rfl⟩
  have c1 := h.cell hd
  have c2 := h.cell ha
  have f1 := h.frozen d
  have l1 := gt_lt h.1 d
  have l2 := gt_lt h.1 a
  rw [hx1] at c1 l1
  rw [hx2] at c2 l2
  have l3 := xor_lt32 x1 x2 l1 l2
  have e1 := u32_xor_nat x1 x2 l1 l2
  have h' : ∀ m, St ((w0.drewN m).setCell ⟨g, d, none⟩ (.int .u32 (rot (x1 ^^^ x2) 16 : Nat))) g (turnTo L1 d a 16) := fun m => by
    have h2 := step_turn h m d a 16 (by decide)
    rwa [hx1, hx2] at h2
  generalize x1 ^^^ x2 = v at l3 e1 h'
  go_wp2
  refine Q.wp_quiet_tail 10 (by kernel_rfl) (by kernel_rfl) ?_
  simp only [List.take_succ_cons, List.take_zero, List.drop_succ_cons, List.drop_zero]
  repeat go_big_quiet_step ((go_at_call 28; with_reducible refine Calls.quiet_of (rotl_walk v 16 _ l3 (by decide) rfl)))
  refine wpQuiet_nil ?_
  intro _ hw'
  obtain ⟨m, rfl⟩ := hw'
  go_wp2
  have h2 := h' m
  have h3 := step_below h0 m hB d (.int .u32 ((rot v 16 : Nat) : Int))
  have h4 := far_set hz m hne d (.int .u32 ((rot v 16 : Nat) : Int))
  clear h h0 hz c1 c2 f1 l1 l2 e1 l3 hx1 hx2 h'
  generalize (w0.drewN m).setCell ⟨g, d, none⟩ (.int .u32 ((rot v 16 : Nat) : Int)) = w1 at h2 h3 h4 ⊢
  have h := h2
  have h0 := h3
  have hz := h4
  clear h2 h3 h4
  obtain ⟨L2, hL2⟩ : ∃ v, turnTo L1 d a 16 = v := ⟨_, rfl⟩
  rw [hL2] at h
  obtain ⟨x1, hx1⟩ : ∃ v, gt L2 c = v := ⟨_, rfl⟩
  obtain ⟨x2, hx2⟩ : ∃ v, gt L2 d = v := ⟨_, rfl⟩
  have c1 := h.cell hc
  have c2 := h.cell hd
  have f1 := h.frozen c
  have l1 := gt_lt h.1 c
  have l2 := gt_lt h.1 d
  rw [hx1] at c1 l1
  rw [hx2] at c2 l2
  obtain ⟨v, hv⟩ : ∃ v, (x1 + x2) % 4294967296 = v := ⟨_, rfl⟩
  have e1 : ((x1 : Int) + (x2 : Int)) % 4294967296 = (v : Int) := by omega
  have h' : ∀ m, St ((w1.drewN m).setCell ⟨g, c, none⟩ (.int .u32 (v : Int))) g (addTo L2 c d) := fun m => by
    have h2 := step_add h m c d
    rwa [hx1, hx2, hv] at h2
  go_wp2
  refine Q.wp_quiet_tail 9 (by kernel_rfl) (by kernel_rfl) ?_
  simp only [List.take_succ_cons, List.take_zero, List.drop_succ_cons, List.drop_zero]
  repeat go_big_quiet_step (fail)
  refine wpQuiet_nil ?_
  intro _ hw'
  obtain ⟨m, rfl⟩ := hw'
  go_wp2
  simp only [e1]
  have h2 := h' m
  have h3 := step_below h0 m hB c (.int .u32 (v : Int))
  have h4 := far_set hz m hne c (.int .u32 (v : Int))
  clear h h0 hz c1 c2 f1 l1 l2 e1 hv hx1 hx2 h'
  generalize (w1.drewN m).setCell ⟨g, c, none⟩ (.int .u32 (v : Int)) = w2 at h2 h3 h4 ⊢
  have h := h2
  have h0 := h3
  have hz := h4
  clear h2 h3 h4
  obtain ⟨L3, hL3⟩ : ∃ v, addTo L2 c d = v := ⟨_, rfl⟩
  rw [hL3] at h
  obtain ⟨x1, hx1⟩ : ∃ v, gt L3 b = v := ⟨_, rfl⟩
  obtain ⟨x2, hx2⟩ : ∃ v, gt L3 c = v := ⟨_, rfl⟩
  have c1 := h.cell hb
  have c2 := h.cell hc
  have f1 := h.frozen b
  have l1 := gt_lt h.1 b
  have l2 := gt_lt h.1 c
  rw [hx1] at c1 l1
  rw [hx2] at c2 l2
  have l3 := xor_lt32 x1 x2 l1 l2
  have e1 := u32_xor_nat x1 x2 l1 l2
  have h' : ∀ m, St ((w2.drewN m).setCell ⟨g, b, none⟩ (.int .u32 (rot (x1 ^^^ x2) 12 : Nat))) g (turnTo L3 b c 12) := fun m => by
    have h2 := step_turn h m b c 12 (by decide)
    rwa [hx1, hx2] at h2
  generalize x1 ^^^ x2 = v at l3 e1 h'
  go_wp2
  refine Q.wp_quiet_tail 10 (by kernel_rfl) (by kernel_rfl) ?_
  simp only [List.take_succ_cons, List.take_zero, List.drop_succ_cons, List.drop_zero]
  repeat go_big_quiet_step ((go_at_call 28; with_reducible refine Calls.quiet_of (rotl_walk v 12 _ l3 (by decide) rfl)))
  refine wpQuiet_nil ?_
  intro _ hw'
  obtain ⟨m, rfl⟩ := hw'
  go_wp2
  have h2 := h' m
  have h3 := step_below h0 m hB b (.int .u32 ((rot v 12 : Nat) : Int))
  have h4 := far_set hz m hne b (.int .u32 ((rot v 12 : Nat) : Int))
  clear h h0 hz c1 c2 f1 l1 l2 e1 l3 hx1 hx2 h'
  generalize (w2.drewN m).setCell ⟨g, b, none⟩ (.int .u32 ((rot v 12 : Nat) : Int)) = w3 at h2 h3 h4 ⊢
  have h := h2
  have h0 := h3
  have hz := h4
  clear h2 h3 h4
  obtain ⟨L4, hL4⟩ : ∃ v, turnTo L3 b c 12 = v := ⟨_, rfl⟩
  rw [hL4] at h
  obtain ⟨x1, hx1⟩ : ∃ v, gt L4 a = v := ⟨_, rfl⟩
  obtain ⟨x2, hx2⟩ : ∃ v, gt L4 b = v := ⟨_, rfl⟩
  have c1 := h.cell ha
  have c2 := h.cell hb
  have f1 := h.frozen a
  have l1 := gt_lt h.1 a
  have l2 := gt_lt h.1 b
  rw [hx1] at c1 l1
  rw [hx2] at c2 l2
  obtain ⟨v, hv⟩ : ∃ v, (x1 + x2) % 4294967296 = v := ⟨_, rfl⟩
  have e1 : ((x1 : Int) + (x2 : Int)) % 4294967296 = (v : Int) := by omega
  have h' : ∀ m, St ((w3.drewN m).setCell ⟨g, a, none⟩ (.int .u32 (v : Int))) g (addTo L4 a b) := fun m => by
    have h2 := step_add h m a b
    rwa [hx1, hx2, hv] at h2
  go_wp2
  refine Q.wp_quiet_tail 9 (by kernel_rfl) (by kernel_rfl) ?_
  simp only [List.take_succ_cons, List.take_zero, List.drop_succ_cons, List.drop_zero]
  repeat go_big_quiet_step (fail)
  refine wpQuiet_nil ?_
  intro _ hw'
  obtain ⟨m, rfl⟩ := hw'
  go_wp2
  simp only [e1]
  have h2 := h' m
  have h3 := step_below h0 m hB a (.int .u32 (v : Int))
  have h4 := far_set hz m hne a (.int .u32 (v : Int))
  clear h h0 hz c1 c2 f1 l1 l2 e1 hv hx1 hx2 h'
  generalize (w3.drewN m).setCell ⟨g, a, none⟩ (.int .u32 (v : Int)) = w4 at h2 h3 h4 ⊢
  have h := h2
  have h0 := h3
  have hz := h4
  clear h2 h3 h4
  obtain ⟨L5, hL5⟩ : ∃ v, addTo L4 a b = v := ⟨_, rfl⟩
  rw [hL5] at h
  obtain ⟨x1, hx1⟩ : ∃ v, gt L5 d = v := ⟨_, rfl⟩
  obtain ⟨x2, hx2⟩ : ∃ v, gt L5 a = v := ⟨_, rfl⟩
  have c1 := h.cell hd
  have c2 := h.cell ha
  have f1 := h.frozen d
  have l1 := gt_lt h.1 d
  have l2 := gt_lt h.1 a
  rw [hx1] at c1 l1
  rw [hx2] at c2 l2
  have l3 := xor_lt32 x1 x2 l1 l2
  have e1 := u32_xor_nat x1 x2 l1 l2
  have h' : ∀ m, St ((w4.drewN m).setCell ⟨g, d, none⟩ (.int .u32 (rot (x1 ^^^ x2) 8 : Nat))) g (turnTo L5 d a 8) := fun m => by
    have h2 := step_turn h m d a 8 (by decide)
    rwa [hx1, hx2] at h2
  generalize x1 ^^^ x2 = v at l3 e1 h'
  go_wp2
  refine Q.wp_quiet_tail 10 (by kernel_rfl) (by kernel_rfl) ?_
  simp only [List.take_succ_cons, List.take_zero, List.drop_succ_cons, List.drop_zero]
  repeat go_big_quiet_step ((go_at_call 28; with_reducible refine Calls.quiet_of (rotl_walk v 8 _ l3 (by decide) rfl)))
  refine wpQuiet_nil ?_
  intro _ hw'
  obtain ⟨m, rfl⟩ := hw'
  go_wp2
  have h2 := h' m
  have h3 := step_below h0 m hB d (.int .u32 ((rot v 8 : Nat) : Int))
  have h4 := far_set hz m hne d (.int .u32 ((rot v 8 : Nat) : Int))
  clear h h0 hz c1 c2 f1 l1 l2 e1 l3 hx1 hx2 h'
  generalize (w4.drewN m).setCell ⟨g, d, none⟩ (.int .u32 ((rot v 8 : Nat) : Int)) = w5 at h2 h3 h4 ⊢
  have h := h2
  have h0 := h3
  have hz := h4
  clear h2 h3 h4
  obtain ⟨L6, hL6⟩ : ∃ v, turnTo L5 d a 8 = v := ⟨_, rfl⟩
  rw [hL6] at h
  obtain ⟨x1, hx1⟩ : ∃ v, gt L6 c = v := ⟨_, rfl⟩
  obtain ⟨x2, hx2⟩ : ∃ v, gt L6 d = v := ⟨_, rfl⟩
  have c1 := h.cell hc
  have c2 := h.cell hd
  have f1 := h.frozen c
  have l1 := gt_lt h.1 c
  have l2 := gt_lt h.1 d
  rw [hx1] at c1 l1
  rw [hx2] at c2 l2
  obtain ⟨v, hv⟩ : ∃ v, (x1 + x2) % 4294967296 = v := ⟨_, rfl⟩
  have e1 : ((x1 : Int) + (x2 : Int)) % 4294967296 = (v : Int) := by omega
  have h' : ∀ m, St ((w5.drewN m).setCell ⟨g, c, none⟩ (.int .u32 (v : Int))) g (addTo L6 c d) := fun m => by
    have h2 := step_add h m c d
    rwa [hx1, hx2, hv] at h2
  go_wp2
  refine Q.wp_quiet_tail 9 (by kernel_rfl) (by kernel_rfl) ?_
  simp only [List.take_succ_cons, List.take_zero, List.drop_succ_cons, List.drop_zero]
  repeat go_big_quiet_step (fail)
  refine wpQuiet_nil ?_
  intro _ hw'
  obtain ⟨m, rfl⟩ := hw'
  go_wp2
  simp only [e1]
  have h2 := h' m
  have h3 := step_below h0 m hB c (.int .u32 (v : Int))
  have h4 := far_set hz m hne c (.int .u32 (v : Int))
  clear h h0 hz c1 c2 f1 l1 l2 e1 hv hx1 hx2 h'
  generalize (w5.drewN m).setCell ⟨g, c, none⟩ (.int .u32 (v : Int)) = w6 at h2 h3 h4 ⊢
  have h := h2
  have h0 := h3
  have hz := h4
  clear h2 h3 h4
  obtain ⟨L7, hL7⟩ : ∃ v, addTo L6 c d = v := ⟨_, rfl⟩
  rw [hL7] at h
  obtain ⟨x1, hx1⟩ : ∃ v, gt L7 b = v := ⟨_, rfl⟩
  obtain ⟨x2, hx2⟩ : ∃ v, gt L7 c = v := ⟨_, rfl⟩
  have c1 := h.cell hb
  have c2 := h.cell hc
  have f1 := h.frozen b
  have l1 := gt_lt h.1 b
  have l2 := gt_lt h.1 c
  rw [hx1] at c1 l1
  rw [hx2] at c2 l2
  have l3 := xor_lt32 x1 x2 l1 l2
  have e1 := u32_xor_nat x1 x2 l1 l2
  have h' : ∀ m, St ((w6.drewN m).setCell ⟨g, b, none⟩ (.int .u32 (rot (x1 ^^^ x2) 7 : Nat))) g (turnTo L7 b c 7) := fun m => by
    have h2 := step_turn h m b c 7 (by decide)
    rwa [hx1, hx2] at h2
  generalize x1 ^^^ x2 = v at l3 e1 h'
  go_wp2
  refine Q.wp_quiet_tail 10 (by kernel_rfl) (by kernel_rfl) ?_
  simp only [List.take_succ_cons, List.take_zero, List.drop_succ_cons, List.drop_zero]
  repeat go_big_quiet_step ((go_at_call 28; with_reducible refine Calls.quiet_of (rotl_walk v 7 _ l3 (by decide) rfl)))
  refine wpQuiet_nil ?_
  intro _ hw'
  obtain ⟨m, rfl⟩ := hw'
  have hq : qr l a b c d = turnTo L7 b c 7 := by unfold qr; rw [hL1, hL2, hL3, hL4, hL5, hL6, hL7]
  have h2 := h' m
  rw [← hq] at h2
  have h3 := step_below h0 m hB b (.int .u32 ((rot v 7 : Nat) : Int))
  have h4 := far_set hz m hne b (.int .u32 ((rot v 7 : Nat) : Int))
  have hsz : (Try.prog.info? 23).map (·.size) = some (ws (qr l a b c d)).size := by rw [ws_size, h2.1.1]; rfl
  have hall : (ws (qr l a b c d)).all (·.oneCell') = true := by simp [ws, Value.oneCell']
  go_wp2_with (first | (refine wpList_load_row rfl 23 (.tmp 5) rfl g rfl 23 _ (0, 0) _ h2.2 Try.underlying23 rfl hsz ?_) | (refine wpList_store_row rfl 23 (.tmp 10) (.tmp 87) rfl (g + 1) (ws (qr l a b c d)) rfl rfl 23 zs h4 hsz (by rw [ws_size, h2.1.1]; rfl) hall ?_))
  refine bodyPost_ret (results_cell_row rfl _ _ (g + 1) 23 (ws (qr l a b c d)) (0, 0) _ rfl (setRow_heap _ _ _ _ _ _ h4) Try.underlying23 rfl hsz) rfl ?_
  rw [hg]
  exact ⟨rfl, below_setRow h3 (by omega) _⟩

set_option maxHeartbeats 8000000 in
set_option maxRecDepth 100000 in
theorem undo_walk (l : List Nat) (a b c d : Nat) (w : World) (hl : Fit l) (ha : a < 16) (hb : b < 16) (hc : c < 16) (hd : d < 16) :
    Calls Try.prog 26 #[.agg (ws l), .int .i64 (a : Int), .int .i64 (b : Int), .int .i64 (c : Int), .int .i64 (d : Int)] w fun e w' => e = .returned (.agg (ws (un l a b c d))) ∧ Below w.heap.size w w' := by
  have h : St ((w.alloc (.cells (ws l) 23)).alloc (.cells zs 23)) w.heap.size l := ⟨hl, (Blk.new w 23 (ws l)).alloc _⟩
  have hz : Blk ((w.alloc (.cells (ws l) 23)).alloc (.cells zs 23)) (w.heap.size + 1) 23 zs := heap_alloc2_new w _ _
  have h0 : Below w.heap.size w ((w.alloc (.cells (ws l) 23)).alloc (.cells zs 23)) := ((Below.refl _ _).alloc (Nat.le_refl _) _).alloc (by show w.heap.size ≤ (w.heap.push _).size; simp) _
  go_enter Try.func26, Try.ntmps26
  have za : (a : Int) < 16 := by omega
  have zb : (b : Int) < 16 := by omega
  have zc : (c : Int) < 16 := by omega
  have zd : (d : Int) < 16 := by omega
  have ya : IntKind.i64.wrap (a : Int) = a := IntWalk.i64_in _ (by omega)
  have yb : IntKind.i64.wrap (b : Int) = b := IntWalk.i64_in _ (by omega)
  have yc : IntKind.i64.wrap (c : Int) = c := IntWalk.i64_in _ (by omega)
  have yd : IntKind.i64.wrap (d : Int) = d := IntWalk.i64_in _ (by omega)
  go_wp2
  change Code.wp _ _ _ _ ((w.alloc (.cells (ws l) 23)).alloc (.cells zs 23))
  generalize (w.alloc (.cells (ws l) 23)).alloc (.cells zs 23) = wz at h hz h0 ⊢
  have hB : w.heap.size ≤ w.heap.size := Nat.le_refl _
  have hne : w.heap.size + 1 ≠ w.heap.size := by omega
  generalize hg : w.heap.size = g at h hz h0 hB hne ⊢
  obtain ⟨x1, hx1⟩ : ∃ v, gt l b = v := ⟨_, rfl⟩
  obtain ⟨x2, hx2⟩ : ∃ v, gt l c = v := ⟨_, rfl⟩
  have c1 := h.cell hb
  have c2 := h.cell hc
  have f1 := h.frozen b
  have l1 := gt_lt h.1 b
  have l2 := gt_lt h.1 c
  rw [hx1] at c1 l1
  rw [hx2] at c2 l2
  have l3 := rot_lt x1 25 l1 (by decide)
  have e1 := u32_xor_nat (rot x1 25) x2 l3 l2
  have h' : ∀ m, St ((wz.drewN m).setCell ⟨g, b, none⟩ (.int .u32 (rot x1 25 ^^^ x2 : Nat))) g (turnBack l b c 25) := fun m => by
    have h2 := step_back h m b c 25 (by decide)
    rwa [hx1, hx2] at h2
  generalize rot x1 25 ^^^ x2 = v at e1 h'
  go_wp2
  refine Q.wp_quiet_tail 10 (by kernel_rfl) (by kernel_rfl) ?_
  simp only [List.take_succ_cons, List.take_zero, List.drop_succ_cons, List.drop_zero]
  repeat go_big_quiet_step ((go_at_call 28; with_reducible refine Calls.quiet_of (rotl_walk x1 25 _ l1 (by decide) rfl)))
  refine wpQuiet_nil ?_
  intro _ hw'
  obtain ⟨m, rfl⟩ := hw'
  go_wp2
  have h2 := h' m
  have h3 := step_below h0 m hB b (.int .u32 (v : Int))
  have h4 := far_set hz m hne b (.int .u32 (v : Int))
  clear h h0 hz c1 c2 f1 l1 l2 e1 l3 hx1 hx2 h'
  generalize (wz.drewN m).setCell ⟨g, b, none⟩ (.int .u32 (v : Int)) = w0 at h2 h3 h4 ⊢
  have h := h2
  have h0 := h3
  have hz := h4
  clear h2 h3 h4
  obtain ⟨L1, hL1⟩ : ∃ v, turnBack l b c 25 = v := ⟨_, rfl⟩
  rw [hL1] at h
  obtain ⟨x1, hx1⟩ : ∃ v, gt L1 c = v := ⟨_, rfl⟩
  obtain ⟨x2, hx2⟩ : ∃ v, gt L1 d = v := ⟨_, rfl⟩
  have c1 := h.cell hc
  have c2 := h.cell hd
  have f1 := h.frozen c
  have l1 := gt_lt h.1 c
  have l2 := gt_lt h.1 d
  rw [hx1] at c1 l1
  rw [hx2] at c2 l2
  obtain ⟨v, hv⟩ : ∃ v, (x1 + (4294967296 - x2)) % 4294967296 = v := ⟨_, rfl⟩
  have e1 : ((x1 : Int) - (x2 : Int)) % 4294967296 = (v : Int) := by omega
  have h' : ∀ m, St ((w0.drewN m).setCell ⟨g, c, none⟩ (.int .u32 (v : Int))) g (subFrom L1 c d) := fun m => by
    have h2 := step_sub h m c d
    rwa [hx1, hx2, hv] at h2
  go_wp2
  refine Q.wp_quiet_tail 9 (by kernel_rfl) (by kernel_rfl) ?_
  simp only [List.take_succ_cons, List.take_zero, List.drop_succ_cons, List.drop_zero]
  repeat go_big_quiet_step (fail)
  refine wpQuiet_nil ?_
  intro _ hw'
  obtain ⟨m, rfl⟩ := hw'
  go_wp2
  simp only [e1]
  have h2 := h' m
  have h3 := step_below h0 m hB c (.int .u32 (v : Int))
  have h4 := far_set hz m hne c (.int .u32 (v : Int))
  clear h h0 hz c1 c2 f1 l1 l2 e1 hv hx1 hx2 h'
  generalize (w0.drewN m).setCell ⟨g, c, none⟩ (.int .u32 (v : Int)) = w1 at h2 h3 h4 ⊢
  have h := h2
  have h0 := h3
  have hz := h4
  clear h2 h3 h4
  obtain ⟨L2, hL2⟩ : ∃ v, subFrom L1 c d = v := ⟨_, rfl⟩
  rw [hL2] at h
  obtain ⟨x1, hx1⟩ : ∃ v, gt L2 d = v := ⟨_, rfl⟩
  obtain ⟨x2, hx2⟩ : ∃ v, gt L2 a = v := ⟨_, rfl⟩
  have c1 := h.cell hd
  have c2 := h.cell ha
  have f1 := h.frozen d
  have l1 := gt_lt h.1 d
  have l2 := gt_lt h.1 a
  rw [hx1] at c1 l1
  rw [hx2] at c2 l2
  have l3 := rot_lt x1 24 l1 (by decide)
  have e1 := u32_xor_nat (rot x1 24) x2 l3 l2
  have h' : ∀ m, St ((w1.drewN m).setCell ⟨g, d, none⟩ (.int .u32 (rot x1 24 ^^^ x2 : Nat))) g (turnBack L2 d a 24) := fun m => by
    have h2 := step_back h m d a 24 (by decide)
    rwa [hx1, hx2] at h2
  generalize rot x1 24 ^^^ x2 = v at e1 h'
  go_wp2
  refine Q.wp_quiet_tail 10 (by kernel_rfl) (by kernel_rfl) ?_
  simp only [List.take_succ_cons, List.take_zero, List.drop_succ_cons, List.drop_zero]
  repeat go_big_quiet_step ((go_at_call 28; with_reducible refine Calls.quiet_of (rotl_walk x1 24 _ l1 (by decide) rfl)))
  refine wpQuiet_nil ?_
  intro _ hw'
  obtain ⟨m, rfl⟩ := hw'
  go_wp2
  have h2 := h' m
  have h3 := step_below h0 m hB d (.int .u32 (v : Int))
  have h4 := far_set hz m hne d (.int .u32 (v : Int))
  clear h h0 hz c1 c2 f1 l1 l2 e1 l3 hx1 hx2 h'
  generalize (w1.drewN m).setCell ⟨g, d, none⟩ (.int .u32 (v : Int)) = w2 at h2 h3 h4 ⊢
  have h := h2
  have h0 := h3
  have hz := h4
  clear h2 h3 h4
  obtain ⟨L3, hL3⟩ : ∃ v, turnBack L2 d a 24 = v := ⟨_, rfl⟩
  rw [hL3] at h
  obtain ⟨x1, hx1⟩ : ∃ v, gt L3 a = v := ⟨_, rfl⟩
  obtain ⟨x2, hx2⟩ : ∃ v, gt L3 b = v := ⟨_, rfl⟩
  have c1 := h.cell ha
  have c2 := h.cell hb
  have f1 := h.frozen a
  have l1 := gt_lt h.1 a
  have l2 := gt_lt h.1 b
  rw [hx1] at c1 l1
  rw [hx2] at c2 l2
  obtain ⟨v, hv⟩ : ∃ v, (x1 + (4294967296 - x2)) % 4294967296 = v := ⟨_, rfl⟩
  have e1 : ((x1 : Int) - (x2 : Int)) % 4294967296 = (v : Int) := by omega
  have h' : ∀ m, St ((w2.drewN m).setCell ⟨g, a, none⟩ (.int .u32 (v : Int))) g (subFrom L3 a b) := fun m => by
    have h2 := step_sub h m a b
    rwa [hx1, hx2, hv] at h2
  go_wp2
  refine Q.wp_quiet_tail 9 (by kernel_rfl) (by kernel_rfl) ?_
  simp only [List.take_succ_cons, List.take_zero, List.drop_succ_cons, List.drop_zero]
  repeat go_big_quiet_step (fail)
  refine wpQuiet_nil ?_
  intro _ hw'
  obtain ⟨m, rfl⟩ := hw'
  go_wp2
  simp only [e1]
  have h2 := h' m
  have h3 := step_below h0 m hB a (.int .u32 (v : Int))
  have h4 := far_set hz m hne a (.int .u32 (v : Int))
  clear h h0 hz c1 c2 f1 l1 l2 e1 hv hx1 hx2 h'
  generalize (w2.drewN m).setCell ⟨g, a, none⟩ (.int .u32 (v : Int)) = w3 at h2 h3 h4 ⊢
  have h := h2
  have h0 := h3
  have hz := h4
  clear h2 h3 h4
  obtain ⟨L4, hL4⟩ : ∃ v, subFrom L3 a b = v := ⟨_, rfl⟩
  rw [hL4] at h
  obtain ⟨x1, hx1⟩ : ∃ v, gt L4 b = v := ⟨_, rfl⟩
  obtain ⟨x2, hx2⟩ : ∃ v, gt L4 c = v := ⟨_, rfl⟩
  have c1 := h.cell hb
  have c2 := h.cell hc
  have f1 := h.frozen b
  have l1 := gt_lt h.1 b
  have l2 := gt_lt h.1 c
  rw [hx1] at c1 l1
  rw [hx2] at c2 l2
  have l3 := rot_lt x1 20 l1 (by decide)
  have e1 := u32_xor_nat (rot x1 20) x2 l3 l2
  have h' : ∀ m, St ((w3.drewN m).setCell ⟨g, b, none⟩ (.int .u32 (rot x1 20 ^^^ x2 : Nat))) g (turnBack L4 b c 20) := fun m => by
    have h2 := step_back h m b c 20 (by decide)
    rwa [hx1, hx2] at h2
  generalize rot x1 20 ^^^ x2 = v at e1 h'
  go_wp2
  refine Q.wp_quiet_tail 10 (by kernel_rfl) (by kernel_rfl) ?_
  simp only [List.take_succ_cons, List.take_zero, List.drop_succ_cons, List.drop_zero]
  repeat go_big_quiet_step ((go_at_call 28; with_reducible refine Calls.quiet_of (rotl_walk x1 20 _ l1 (by decide) rfl)))
  refine wpQuiet_nil ?_
  intro _ hw'
  obtain ⟨m, rfl⟩ := hw'
  go_wp2
  have h2 := h' m
  have h3 := step_below h0 m hB b (.int .u32 (v : Int))
  have h4 := far_set hz m hne b (.int .u32 (v : Int))
  clear h h0 hz c1 c2 f1 l1 l2 e1 l3 hx1 hx2 h'
  generalize (w3.drewN m).setCell ⟨g, b, none⟩ (.int .u32 (v : Int)) = w4 at h2 h3 h4 ⊢
  have h := h2
  have h0 := h3
  have hz := h4
  clear h2 h3 h4
  obtain ⟨L5, hL5⟩ : ∃ v, turnBack L4 b c 20 = v := ⟨_, rfl⟩
  rw [hL5] at h
  obtain ⟨x1, hx1⟩ : ∃ v, gt L5 c = v := ⟨_, rfl⟩
  obtain ⟨x2, hx2⟩ : ∃ v, gt L5 d = v := ⟨_, rfl⟩
  have c1 := h.cell hc
  have c2 := h.cell hd
  have f1 := h.frozen c
  have l1 := gt_lt h.1 c
  have l2 := gt_lt h.1 d
  rw [hx1] at c1 l1
  rw [hx2] at c2 l2
  obtain ⟨v, hv⟩ : ∃ v, (x1 + (4294967296 - x2)) % 4294967296 = v := ⟨_, rfl⟩
  have e1 : ((x1 : Int) - (x2 : Int)) % 4294967296 = (v : Int) := by omega
  have h' : ∀ m, St ((w4.drewN m).setCell ⟨g, c, none⟩ (.int .u32 (v : Int))) g (subFrom L5 c d) := fun m => by
    have h2 := step_sub h m c d
    rwa [hx1, hx2, hv] at h2
  go_wp2
  refine Q.wp_quiet_tail 9 (by kernel_rfl) (by kernel_rfl) ?_
  simp only [List.take_succ_cons, List.take_zero, List.drop_succ_cons, List.drop_zero]
  repeat go_big_quiet_step (fail)
  refine wpQuiet_nil ?_
  intro _ hw'
  obtain ⟨m, rfl⟩ := hw'
  go_wp2
  simp only [e1]
  have h2 := h' m
  have h3 := step_below h0 m hB c (.int .u32 (v : Int))
  have h4 := far_set hz m hne c (.int .u32 (v : Int))
  clear h h0 hz c1 c2 f1 l1 l2 e1 hv hx1 hx2 h'
  generalize (w4.drewN m).setCell ⟨g, c, none⟩ (.int .u32 (v : Int)) = w5 at h2 h3 h4 ⊢
  have h := h2
  have h0 := h3
  have hz := h4
  clear h2 h3 h4
  obtain ⟨L6, hL6⟩ : ∃ v, subFrom L5 c d = v := ⟨_, rfl⟩
  rw [hL6] at h
  obtain ⟨x1, hx1⟩ : ∃ v, gt L6 d = v := ⟨_, rfl⟩
  obtain ⟨x2, hx2⟩ : ∃ v, gt L6 a = v := ⟨_, rfl⟩
  have c1 := h.cell hd
  have c2 := h.cell ha
  have f1 := h.frozen d
  have l1 := gt_lt h.1 d
  have l2 := gt_lt h.1 a
  rw [hx1] at c1 l1
  rw [hx2] at c2 l2
  have l3 := rot_lt x1 16 l1 (by decide)
  have e1 := u32_xor_nat (rot x1 16) x2 l3 l2
  have h' : ∀ m, St ((w5.drewN m).setCell ⟨g, d, none⟩ (.int .u32 (rot x1 16 ^^^ x2 : Nat))) g (turnBack L6 d a 16) := fun m => by
    have h2 := step_back h m d a 16 (by decide)
    rwa [hx1, hx2] at h2
  generalize rot x1 16 ^^^ x2 = v at e1 h'
  go_wp2
  refine Q.wp_quiet_tail 10 (by kernel_rfl) (by kernel_rfl) ?_
  simp only [List.take_succ_cons, List.take_zero, List.drop_succ_cons, List.drop_zero]
  repeat go_big_quiet_step ((go_at_call 28; with_reducible refine Calls.quiet_of (rotl_walk x1 16 _ l1 (by decide) rfl)))
  refine wpQuiet_nil ?_
  intro _ hw'
  obtain ⟨m, rfl⟩ := hw'
  go_wp2
  have h2 := h' m
  have h3 := step_below h0 m hB d (.int .u32 (v : Int))
  have h4 := far_set hz m hne d (.int .u32 (v : Int))
  clear h h0 hz c1 c2 f1 l1 l2 e1 l3 hx1 hx2 h'
  generalize (w5.drewN m).setCell ⟨g, d, none⟩ (.int .u32 (v : Int)) = w6 at h2 h3 h4 ⊢
  have h := h2
  have h0 := h3
  have hz := h4
  clear h2 h3 h4
  obtain ⟨L7, hL7⟩ : ∃ v, turnBack L6 d a 16 = v := ⟨_, rfl⟩
  rw [hL7] at h
  obtain ⟨x1, hx1⟩ : ∃ v, gt L7 a = v := ⟨_, rfl⟩
  obtain ⟨x2, hx2⟩ : ∃ v, gt L7 b = v := ⟨_, rfl⟩
  have c1 := h.cell ha
  have c2 := h.cell hb
  have f1 := h.frozen a
  have l1 := gt_lt h.1 a
  have l2 := gt_lt h.1 b
  rw [hx1] at c1 l1
  rw [hx2] at c2 l2
  obtain ⟨v, hv⟩ : ∃ v, (x1 + (4294967296 - x2)) % 4294967296 = v := ⟨_, rfl⟩
  have e1 : ((x1 : Int) - (x2 : Int)) % 4294967296 = (v : Int) := by omega
  have h' : ∀ m, St ((w6.drewN m).setCell ⟨g, a, none⟩ (.int .u32 (v : Int))) g (subFrom L7 a b) := fun m => by
    have h2 := step_sub h m a b
    rwa [hx1, hx2, hv] at h2
  go_wp2
  refine Q.wp_quiet_tail 9 (by kernel_rfl) (by kernel_rfl) ?_
  simp only [List.take_succ_cons, List.take_zero, List.drop_succ_cons, List.drop_zero]
  repeat go_big_quiet_step (fail)
  refine wpQuiet_nil ?_
  intro _ hw'
  obtain ⟨m, rfl⟩ := hw'
  have hq : un l a b c d = subFrom L7 a b := by unfold un; rw [hL1, hL2, hL3, hL4, hL5, hL6, hL7]
  have h2 := h' m
  rw [← hq] at h2
  have h3 := step_below h0 m hB a (.int .u32 (v : Int))
  have h4 := far_set hz m hne a (.int .u32 (v : Int))
  have hsz : (Try.prog.info? 23).map (·.size) = some (ws (un l a b c d)).size := by rw [ws_size, h2.1.1]; rfl
  have hall : (ws (un l a b c d)).all (·.oneCell') = true := by simp [ws, Value.oneCell']
  go_wp2_with (first | (simp only [e1]; refine wpList_load_row rfl 23 (.tmp 5) rfl g rfl 23 _ (0, 0) _ h2.2 Try.underlying23 rfl hsz ?_) | (refine wpList_store_row rfl 23 (.tmp 10) (.tmp 87) rfl (g + 1) (ws (un l a b c d)) rfl rfl 23 zs h4 hsz (by rw [ws_size, h2.1.1]; rfl) hall ?_))
  refine bodyPost_ret (results_cell_row rfl _ _ (g + 1) 23 (ws (un l a b c d)) (0, 0) _ rfl (setRow_heap _ _ _ _ _ _ h4) Try.underlying23 rfl hsz) rfl ?_
  rw [hg]
  exact ⟨rfl, below_setRow h3 (by omega) _⟩
end Go.Proofs.Ytpojbjldboknmaa.Qb
