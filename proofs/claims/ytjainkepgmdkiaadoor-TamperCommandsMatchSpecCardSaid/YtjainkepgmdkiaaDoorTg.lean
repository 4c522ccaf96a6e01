/-
  The method apply: what it checks, and the steps in their order.
-/
import Derived.Test.YtjainkepgmdkiaaDoorTf
namespace Go.Proofs.YtjainkepgmdkiaaDoor.Tg
open Go.RowKit Go.Proofs.YtjainkepgmdkiaaDoor.B Go.Proofs.YtjainkepgmdkiaaDoor.Ta Go.Proofs.YtjainkepgmdkiaaDoor.Tb Go.Proofs.YtjainkepgmdkiaaDoor.Tc Go.Proofs.YtjainkepgmdkiaaDoor.Tz Go.Proofs.YtjainkepgmdkiaaDoor.Te Go.Proofs.YtjainkepgmdkiaaDoor.Tf

theorem sz27 (s : Tm) : (Tryd.prog.info? 27).map (·.size) = some s.cells.size := by
  show _ = some 6
  kernel_rfl
theorem under27 : ∃ d, Tryd.prog.underlying 27 = some (.struct d) := ⟨_, rfl⟩
theorem cells_one (s : Tm) : s.cells.all (·.oneCell') = true := by simp [Tm.cells, Value.oneCell']
theorem lt_alloc (w : World) (o : Obj) : w.heap.size < (w.alloc o).heap.size := by show w.heap.size < (w.heap.push _).size; simp
theorem setRow_on (w : World) (g : Nat) (cs : Array Value) : On w (w.setRow g cs) g :=
  ⟨rfl, rfl, rfl, by simp [World.setRow], fun b _ hn => setRow_other w g b cs (fun e => hn (by rw [e]))⟩
set_option maxHeartbeats 4000000 in
set_option maxRecDepth 100000 in
theorem apply_bad (s : Tm) (sn lv now : Int) (g : Nat) (A : Option Addr) (n m : Nat) (w : World) (hB : Blk w g 55 (cv s sn lv now)) (h : ¬ Vld s) :
    Calls Tryd.prog 25 #[.pointer (some ⟨g, 0, none⟩), .slice A n m] w fun e w' => e = .returned (.tuple #[.agg nil0.cells, .int .i64 1]) ∧ Below w.heap.size w w' := by
  have c0 : w.cell? ⟨g, 0, none⟩ = some (.int .i64 s.m) := hB.cell 0
  have c1 : w.cell? ⟨g, 1, none⟩ = some (.int .i64 s.t) := hB.cell 1
  have c2 : w.cell? ⟨g, 2, none⟩ = some (.int .i64 s.a) := hB.cell 2
  have c3 : w.cell? ⟨g, 3, none⟩ = some (.int .i64 s.b) := hB.cell 3
  have c4 : w.cell? ⟨g, 4, none⟩ = some (.int .i64 s.c) := hB.cell 4
  have c5 : w.cell? ⟨g, 5, none⟩ = some (.int .i64 s.d) := hB.cell 5
  have hlt := hB.lt
  have hcall : ∀ w, Calls Tryd.prog 22 #[.agg #[.int .i64 s.m, .int .i64 s.t, .int .i64 s.a, .int .i64 s.b, .int .i64 s.c, .int .i64 s.d]] w fun e w' => e = .returned (.bool false) ∧ Below w.heap.size w w' := fun w => valid_no s w h
  have HC := Lib.hid hcall
  clear hcall h
  have hne : w.heap.size ≠ g := by omega
  have hBa := hB.alloc (.cells nil0.cells 27)
  clear hB
  go_enter Tryd.func25, Tryd.ntmps25
  go_wp2_with (first | (go_at_call 22; ((with_reducible refine (HC.out _).mono ?_); rintro e w5 ⟨rfl, hb5⟩; have hR := (Blk.new w 27 nil0.cells).below hb5 (lt_alloc _ _); have hb6 : Below w.heap.size w w5 := below_next ((Below.refl w.heap.size w).alloc (Nat.le_refl _) _) hb5; have hB5 := hBa.below hb5 (Nat.lt_trans hlt (lt_alloc _ _)); have e1 : w5.cell? ⟨g, 1, none⟩ = some (.int .i64 s.t) := hB5.cell 1; have e6 : w5.cell? ⟨g, 6, none⟩ = some (.int .i64 sn) := hB5.cell 6; have e7 : w5.cell? ⟨g, 7, none⟩ = some (.int .i64 lv) := hB5.cell 7; have e8 : w5.cell? ⟨g, 8, none⟩ = some (.int .i64 now) := hB5.cell 8; clear c0 c1 c2 c3 c4 c5)) | ((with_reducible refine gate_store (t := 27) (p := 4) (v := .tmp 23) rfl ?_); refine wpList_store_row rfl 27 (.tmp 4) (.tmp 23) rfl w.heap.size nil0.cells rfl rfl 27 nil0.cells hR (sz27 nil0) rfl (cells_one _) ?_))
  obtain ⟨d, hd⟩ := under27
  refine bodyPost_ret (results_row_tmp rfl _ _ w.heap.size 27 nil0.cells (0, 0) _ rfl (setRow_heap _ _ _ _ _ _ hR) hd rfl (sz27 nil0)) rfl ?_
  exact ⟨rfl, below_setRow hb6 (Nat.le_refl _) _⟩
set_option maxHeartbeats 4000000 in
set_option maxRecDepth 100000 in
theorem apply_when (s : Tm) (sn lv now : Int) (g : Nat) (A : Option Addr) (n m : Nat) (w : World) (hB : Blk w g 55 (cv s sn lv now)) (h : Vld s) (hn : now < 0 ∨ 1099511627776 < now) :
    Calls Tryd.prog 25 #[.pointer (some ⟨g, 0, none⟩), .slice A n m] w fun e w' => e = .returned (.tuple #[.agg nil0.cells, .int .i64 1]) ∧ Below w.heap.size w w' := by
  have c0 : w.cell? ⟨g, 0, none⟩ = some (.int .i64 s.m) := hB.cell 0
  have c1 : w.cell? ⟨g, 1, none⟩ = some (.int .i64 s.t) := hB.cell 1
  have c2 : w.cell? ⟨g, 2, none⟩ = some (.int .i64 s.a) := hB.cell 2
  have c3 : w.cell? ⟨g, 3, none⟩ = some (.int .i64 s.b) := hB.cell 3
  have c4 : w.cell? ⟨g, 4, none⟩ = some (.int .i64 s.c) := hB.cell 4
  have c5 : w.cell? ⟨g, 5, none⟩ = some (.int .i64 s.d) := hB.cell 5
  have hlt := hB.lt
  have hcall : ∀ w, Calls Tryd.prog 22 #[.agg #[.int .i64 s.m, .int .i64 s.t, .int .i64 s.a, .int .i64 s.b, .int .i64 s.c, .int .i64 s.d]] w fun e w' => e = .returned (.bool true) ∧ Below w.heap.size w w' := fun w => valid_yes s w h
  have HC := Lib.hid hcall
  clear hcall h
  have hne : w.heap.size ≠ g := by omega
  have hBa := hB.alloc (.cells nil0.cells 27)
  clear hB
  go_enter Tryd.func25, Tryd.ntmps25
  go_wp2_with (first | (go_at_call 22; ((with_reducible refine (HC.out _).mono ?_); rintro e w5 ⟨rfl, hb5⟩; have hR := (Blk.new w 27 nil0.cells).below hb5 (lt_alloc _ _); have hb6 : Below w.heap.size w w5 := below_next ((Below.refl w.heap.size w).alloc (Nat.le_refl _) _) hb5; have hB5 := hBa.below hb5 (Nat.lt_trans hlt (lt_alloc _ _)); have e1 : w5.cell? ⟨g, 1, none⟩ = some (.int .i64 s.t) := hB5.cell 1; have e6 : w5.cell? ⟨g, 6, none⟩ = some (.int .i64 sn) := hB5.cell 6; have e7 : w5.cell? ⟨g, 7, none⟩ = some (.int .i64 lv) := hB5.cell 7; have e8 : w5.cell? ⟨g, 8, none⟩ = some (.int .i64 now) := hB5.cell 8; clear c0 c1 c2 c3 c4 c5)) | (go_at_call 24; ((with_reducible refine (time_no _ _ hn).mono ?_); rintro e w7 ⟨rfl, rfl⟩)) | ((with_reducible refine gate_store (t := 27) (p := 4) (v := .tmp 23) rfl ?_); refine wpList_store_row rfl 27 (.tmp 4) (.tmp 23) rfl w.heap.size nil0.cells rfl rfl 27 nil0.cells hR (sz27 nil0) rfl (cells_one _) ?_))
  obtain ⟨d, hd⟩ := under27
  refine bodyPost_ret (results_row_tmp rfl _ _ w.heap.size 27 nil0.cells (0, 0) _ rfl (setRow_heap _ _ _ _ _ _ hR) hd rfl (sz27 nil0)) rfl ?_
  exact ⟨rfl, below_setRow hb6 (Nat.le_refl _) _⟩
set_option maxHeartbeats 4000000 in
set_option maxRecDepth 100000 in
theorem apply_back (s : Tm) (sn lv now : Int) (g : Nat) (A : Option Addr) (n m : Nat) (w : World) (hB : Blk w g 55 (cv s sn lv now)) (h : Vld s) (h0 : 0 ≤ now) (h1 : now ≤ 1099511627776) (ht : now < s.t) :
    Calls Tryd.prog 25 #[.pointer (some ⟨g, 0, none⟩), .slice A n m] w fun e w' => e = .returned (.tuple #[.agg nil0.cells, .int .i64 20]) ∧ Below w.heap.size w w' := by
  have c0 : w.cell? ⟨g, 0, none⟩ = some (.int .i64 s.m) := hB.cell 0
  have c1 : w.cell? ⟨g, 1, none⟩ = some (.int .i64 s.t) := hB.cell 1
  have c2 : w.cell? ⟨g, 2, none⟩ = some (.int .i64 s.a) := hB.cell 2
  have c3 : w.cell? ⟨g, 3, none⟩ = some (.int .i64 s.b) := hB.cell 3
  have c4 : w.cell? ⟨g, 4, none⟩ = some (.int .i64 s.c) := hB.cell 4
  have c5 : w.cell? ⟨g, 5, none⟩ = some (.int .i64 s.d) := hB.cell 5
  have hlt := hB.lt
  have hcall : ∀ w, Calls Tryd.prog 22 #[.agg #[.int .i64 s.m, .int .i64 s.t, .int .i64 s.a, .int .i64 s.b, .int .i64 s.c, .int .i64 s.d]] w fun e w' => e = .returned (.bool true) ∧ Below w.heap.size w w' := fun w => valid_yes s w h
  have HC := Lib.hid hcall
  clear hcall h
  have hne : w.heap.size ≠ g := by omega
  have hBa := hB.alloc (.cells nil0.cells 27)
  clear hB
  go_enter Tryd.func25, Tryd.ntmps25
  go_wp2_with (first | (go_at_call 22; ((with_reducible refine (HC.out _).mono ?_); rintro e w5 ⟨rfl, hb5⟩; have hR := (Blk.new w 27 nil0.cells).below hb5 (lt_alloc _ _); have hb6 : Below w.heap.size w w5 := below_next ((Below.refl w.heap.size w).alloc (Nat.le_refl _) _) hb5; have hB5 := hBa.below hb5 (Nat.lt_trans hlt (lt_alloc _ _)); have e1 : w5.cell? ⟨g, 1, none⟩ = some (.int .i64 s.t) := hB5.cell 1; have e6 : w5.cell? ⟨g, 6, none⟩ = some (.int .i64 sn) := hB5.cell 6; have e7 : w5.cell? ⟨g, 7, none⟩ = some (.int .i64 lv) := hB5.cell 7; have e8 : w5.cell? ⟨g, 8, none⟩ = some (.int .i64 now) := hB5.cell 8; clear c0 c1 c2 c3 c4 c5)) | (go_at_call 24; ((with_reducible refine (time_yes _ _ h0 h1).mono ?_); rintro e w7 ⟨rfl, rfl⟩)))
  go_quiet (fail)
  go_wp2_with (first | ((with_reducible refine gate_store (t := 27) (p := 4) (v := .tmp 35) rfl ?_); refine wpList_store_row rfl 27 (.tmp 4) (.tmp 35) rfl w.heap.size nil0.cells rfl rfl 27 nil0.cells (hR.drewN _) (sz27 nil0) rfl (cells_one _) ?_))
  obtain ⟨d, hd⟩ := under27
  refine bodyPost_ret (results_row_tmp rfl _ _ w.heap.size 27 nil0.cells (0, 0) _ rfl (setRow_heap _ _ _ _ _ _ (hR.drewN _)) hd rfl (sz27 nil0)) rfl ?_
  exact ⟨rfl, below_setRow (below_drewN hb6 _) (Nat.le_refl _) _⟩
set_option maxHeartbeats 4000000 in
set_option maxRecDepth 100000 in
theorem apply_who (s : Tm) (sn lv now : Int) (g : Nat) (A : Option Addr) (n m : Nat) (w : World) (hB : Blk w g 55 (cv s sn lv now)) (h : Vld s) (h0 : 0 ≤ now) (h1 : now ≤ 1099511627776) (ht : s.t ≤ now) (hk : sn < 1 ∨ 4 < sn) :
    Calls Tryd.prog 25 #[.pointer (some ⟨g, 0, none⟩), .slice A n m] w fun e w' => e = .returned (.tuple #[.agg nil0.cells, .int .i64 1]) ∧ Below w.heap.size w w' := by
  have c0 : w.cell? ⟨g, 0, none⟩ = some (.int .i64 s.m) := hB.cell 0
  have c1 : w.cell? ⟨g, 1, none⟩ = some (.int .i64 s.t) := hB.cell 1
  have c2 : w.cell? ⟨g, 2, none⟩ = some (.int .i64 s.a) := hB.cell 2
  have c3 : w.cell? ⟨g, 3, none⟩ = some (.int .i64 s.b) := hB.cell 3
  have c4 : w.cell? ⟨g, 4, none⟩ = some (.int .i64 s.c) := hB.cell 4
  have c5 : w.cell? ⟨g, 5, none⟩ = some (.int .i64 s.d) := hB.cell 5
  have hlt := hB.lt
  have hcall : ∀ w, Calls Tryd.prog 22 #[.agg #[.int .i64 s.m, .int .i64 s.t, .int .i64 s.a, .int .i64 s.b, .int .i64 s.c, .int .i64 s.d]] w fun e w' => e = .returned (.bool true) ∧ Below w.heap.size w w' := fun w => valid_yes s w h
  have HC := Lib.hid hcall
  clear hcall h
  have hne : w.heap.size ≠ g := by omega
  have hBa := hB.alloc (.cells nil0.cells 27)
  clear hB
  have dt : decide (now < s.t) = false := decide_eq_false (by omega)
  go_enter Tryd.func25, Tryd.ntmps25
  go_wp2_with (first | (go_at_call 22; ((with_reducible refine (HC.out _).mono ?_); rintro e w5 ⟨rfl, hb5⟩; have hR := (Blk.new w 27 nil0.cells).below hb5 (lt_alloc _ _); have hb6 : Below w.heap.size w w5 := below_next ((Below.refl w.heap.size w).alloc (Nat.le_refl _) _) hb5; have hB5 := hBa.below hb5 (Nat.lt_trans hlt (lt_alloc _ _)); have e1 : w5.cell? ⟨g, 1, none⟩ = some (.int .i64 s.t) := hB5.cell 1; have e6 : w5.cell? ⟨g, 6, none⟩ = some (.int .i64 sn) := hB5.cell 6; have e7 : w5.cell? ⟨g, 7, none⟩ = some (.int .i64 lv) := hB5.cell 7; have e8 : w5.cell? ⟨g, 8, none⟩ = some (.int .i64 now) := hB5.cell 8; clear c0 c1 c2 c3 c4 c5)) | (go_at_call 24; ((with_reducible refine (time_yes _ _ h0 h1).mono ?_); rintro e w7 ⟨rfl, rfl⟩)))
  go_quiet (fail)
  go_wp2_with (first | (go_at_call 35; ((with_reducible refine (known_no _ _ _ hk).mono ?_); rintro e w9 ⟨rfl, hb9⟩; have hR9 := (hR.drewN nq).below hb9 (hR.drewN nq).lt; have hb10 := below_next (below_drewN hb6 nq) hb9)) | ((with_reducible refine gate_store (t := 27) (p := 4) (v := .tmp 43) rfl ?_); refine wpList_store_row rfl 27 (.tmp 4) (.tmp 43) rfl w.heap.size nil0.cells rfl rfl 27 nil0.cells hR9 (sz27 nil0) rfl (cells_one _) ?_))
  obtain ⟨d, hd⟩ := under27
  refine bodyPost_ret (results_row_tmp rfl _ _ w.heap.size 27 nil0.cells (0, 0) _ rfl (setRow_heap _ _ _ _ _ _ hR9) hd rfl (sz27 nil0)) rfl ?_
  exact ⟨rfl, below_setRow hb10 (Nat.le_refl _) _⟩
/-- A new block is filled: what was there is there. -/
theorem row_on {w w' : World} {g : Nat} (h : On w w' g) (_hlt : g < w.heap.size) (cs : Array Value) : On w (w'.setRow w.heap.size cs) g :=
  ⟨h.os, h.tape, h.output, by have := h.size; simp [World.setRow]; exact this, fun b hb hn => (setRow_other w' w.heap.size b cs (by omega)).trans (h.block b hb hn)⟩
/-- The state behind k steps. -/
def Steps (stk : Nat → Tm) (sn lv now : Int) (g : Nat) (fs : Array Value) (n : Nat) : Prop :=
  ∀ k, k < n → ∃ F : Nat, (F = 26 ∨ F = 27 ∨ F = 28) ∧ fs[k]? = some (.func (.func F) #[.pointer (some ⟨g, 0, none⟩)] #[]) ∧
    ((stk k).m < 4 → ∀ W, Blk W g 55 (cv (stk k) sn lv now) → Gl W → Calls Tryd.prog F #[.pointer (some ⟨g, 0, none⟩)] W fun e w' => e = .returned (.tuple #[]) ∧ Blk w' g 55 (cv (stk (k + 1)) sn lv now) ∧ On W w' g) ∧
    (¬ (stk k).m < 4 → stk (k + 1) = stk k)
set_option maxHeartbeats 4000000 in
set_option maxRecDepth 100000 in
theorem apply_walk (s : Tm) (sn lv now : Int) (g f : Nat) (fs : Array Value) (n : Nat) (stk : Nat → Tm) (w : World) (hB : Blk w g 55 (cv s sn lv now)) (hF : Blk w f 1 fs) (hfg : f ≠ g) (hG : Gl w) (hg0 : g ≠ 0) (h : Vld s) (h0 : 0 ≤ now) (h1 : now ≤ 1099511627776) (ht : s.t ≤ now) (k1 : 1 ≤ sn) (k4 : sn ≤ 4)
    (hs0 : stk 0 = s) (hst : Steps stk sn lv now g fs n) (hn : n ≤ 3) :
    Calls Tryd.prog 25 #[.pointer (some ⟨g, 0, none⟩), .slice (some ⟨f, 0, none⟩) n n] w fun e w' => e = .returned (.tuple #[.agg (stk n).cells, .int .i64 0]) ∧ On w w' g := by
  have c0 : w.cell? ⟨g, 0, none⟩ = some (.int .i64 s.m) := hB.cell 0
  have c1 : w.cell? ⟨g, 1, none⟩ = some (.int .i64 s.t) := hB.cell 1
  have c2 : w.cell? ⟨g, 2, none⟩ = some (.int .i64 s.a) := hB.cell 2
  have c3 : w.cell? ⟨g, 3, none⟩ = some (.int .i64 s.b) := hB.cell 3
  have c4 : w.cell? ⟨g, 4, none⟩ = some (.int .i64 s.c) := hB.cell 4
  have c5 : w.cell? ⟨g, 5, none⟩ = some (.int .i64 s.d) := hB.cell 5
  have hlt := hB.lt
  have hcall : ∀ w, Calls Tryd.prog 22 #[.agg #[.int .i64 s.m, .int .i64 s.t, .int .i64 s.a, .int .i64 s.b, .int .i64 s.c, .int .i64 s.d]] w fun e w' => e = .returned (.bool true) ∧ Below w.heap.size w w' := fun w => valid_yes s w h
  have HC := Lib.hid hcall
  have HS0 := Lib.hid hs0
  have HST := Lib.hid hst
  clear hcall h hs0 hst
  have hne : w.heap.size ≠ g := by omega
  have hBa := hB.alloc (.cells nil0.cells 27)
  have hFa := hF.alloc (.cells nil0.cells 27)
  have hflt := hF.lt
  have HG := Lib.hid (hG.alloc (.cells nil0.cells 27))
  clear hB hF hG
  have dt : decide (now < s.t) = false := decide_eq_false (by omega)
  go_enter Tryd.func25, Tryd.ntmps25
  go_wp2_with (first | (go_at_call 22; ((with_reducible refine (HC.out _).mono ?_); rintro e w5 ⟨rfl, hb5⟩; have hR := (Blk.new w 27 nil0.cells).below hb5 (lt_alloc _ _); have hb6 : Below w.heap.size w w5 := below_next ((Below.refl w.heap.size w).alloc (Nat.le_refl _) _) hb5; have hB5 := hBa.below hb5 (Nat.lt_trans hlt (lt_alloc _ _)); have e1 : w5.cell? ⟨g, 1, none⟩ = some (.int .i64 s.t) := hB5.cell 1; have e6 : w5.cell? ⟨g, 6, none⟩ = some (.int .i64 sn) := hB5.cell 6; have e7 : w5.cell? ⟨g, 7, none⟩ = some (.int .i64 lv) := hB5.cell 7; have e8 : w5.cell? ⟨g, 8, none⟩ = some (.int .i64 now) := hB5.cell 8; clear c0 c1 c2 c3 c4 c5)) | (go_at_call 24; ((with_reducible refine (time_yes _ _ h0 h1).mono ?_); rintro e w7 ⟨rfl, rfl⟩)))
  go_quiet (fail)
  go_wp2_with (first | (go_at_call 35; ((with_reducible refine (known_yes _ _ _ k1 k4).mono ?_); rintro e w9 ⟨rfl, hb9⟩)))
  have hR9 := (hR.drewN nq).below hb9 (hR.drewN nq).lt
  have hB9 := (hB5.drewN nq).below hb9 (hB5.drewN nq).lt
  have hF9 := ((hFa.below hb5 (Nat.lt_trans hflt (lt_alloc _ _))).drewN nq).below hb9 ((hFa.below hb5 (Nat.lt_trans hflt (lt_alloc _ _))).drewN nq).lt
  have hG9 : Gl w9 := (HG.out.next hb5).next (below_join (below_drewN (Below.refl _ _) nq) (Nat.le_refl _) hb9)
  have hb10 := below_next (below_drewN hb6 nq) hb9
  have hO9 : On w w9 g := .of_below hb10
  rw [← HS0.out] at hB9
  have hg0' := Lib.hid hg0
  have hfg' := Lib.hid hfg
  clear hb9 hb6 hb5 hR hB5 hFa hBa e1 e6 e7 e8 hg0 hfg dt
  go_loopw [7, 46] (fun v7 v46 wr => ∃ k : Nat, k ≤ n ∧ v46 = .int .i64 (k : Int) ∧ Blk wr g 55 (cv (stk k) sn lv now) ∧ Blk wr f 1 fs ∧ Blk wr w.heap.size 27 nil0.cells ∧ Gl wr ∧ On w wr g) (fun _ v46 _ => n - (intOf v46).toNat)
  case atStart => exact ⟨0, Nat.zero_le _, rfl, hB9, hF9, hR9, hG9, hO9⟩
  case round =>
    clear hB9 hF9 hR9 hG9 hO9 hb10
    obtain ⟨k, hk, rfl, hB, hF, hR, hG, hO⟩ := hrel
    by_cases hlk : k < n
    · have zk : (k : Int) < (n : Int) := by omega
      obtain ⟨F, hFn, hf, hyes, hno⟩ := HST.out k hlk
      have cf : wr.cell? ⟨f, k, none⟩ = some (.func (.func F) #[.pointer (some ⟨g, 0, none⟩)] #[]) := (hF.cell k).trans hf
      have cm : wr.cell? ⟨g, 0, none⟩ = some (.int .i64 (stk k).m) := hB.cell 0
      by_cases hm : (stk k).m < 4
      · have HY := Lib.hid (hyes hm)
        clear hyes hno hf
        rcases hFn with rfl | rfl | rfl
        · go_wp2_with (first | (go_at_call 26; ((with_reducible refine (HY.out _ hB hG).mono ?_); rintro e w11 ⟨rfl, hB11, hO11⟩)))
          go_roundw
          case rel => exact ⟨k + 1, by omega, by go_num, hB11, Blk.on hF hO11 hfg'.out, Blk.on hR hO11 (by omega), Gl.on hG hO11 hg0'.out, hO.trans hO11⟩
          case measure => simp [intOf]; omega
        · go_wp2_with (first | (go_at_call 27; ((with_reducible refine (HY.out _ hB hG).mono ?_); rintro e w11 ⟨rfl, hB11, hO11⟩)))
          go_roundw
          case rel => exact ⟨k + 1, by omega, by go_num, hB11, Blk.on hF hO11 hfg'.out, Blk.on hR hO11 (by omega), Gl.on hG hO11 hg0'.out, hO.trans hO11⟩
          case measure => simp [intOf]; omega
        · go_wp2_with (first | (go_at_call 28; ((with_reducible refine (HY.out _ hB hG).mono ?_); rintro e w11 ⟨rfl, hB11, hO11⟩)))
          go_roundw
          case rel => exact ⟨k + 1, by omega, by go_num, hB11, Blk.on hF hO11 hfg'.out, Blk.on hR hO11 (by omega), Gl.on hG hO11 hg0'.out, hO.trans hO11⟩
          case measure => simp [intOf]; omega
      · have HN := Lib.hid (hno hm)
        clear hyes hno hf
        go_wp2
        go_roundw
        case rel => exact ⟨k + 1, by omega, by go_num, by rw [HN.out]; exact hB, hF, hR, hG, hO⟩
        case measure => simp [intOf]; omega
    · obtain rfl : k = n := by omega
      clear hlk hk
      have b0 : wr.cell? ⟨g, 0, none⟩ = some (.int .i64 (stk k).m) := hB.cell 0
      have b1 : wr.cell? ⟨g, 1, none⟩ = some (.int .i64 (stk k).t) := hB.cell 1
      have b2 : wr.cell? ⟨g, 2, none⟩ = some (.int .i64 (stk k).a) := hB.cell 2
      have b3 : wr.cell? ⟨g, 3, none⟩ = some (.int .i64 (stk k).b) := hB.cell 3
      have b4 : wr.cell? ⟨g, 4, none⟩ = some (.int .i64 (stk k).c) := hB.cell 4
      have b5 : wr.cell? ⟨g, 5, none⟩ = some (.int .i64 (stk k).d) := hB.cell 5
      go_wp2_with (first | ((with_reducible refine gate_store (t := 27) (p := 4) (v := .tmp 62) rfl ?_); refine wpList_store_row rfl 27 (.tmp 4) (.tmp 62) rfl w.heap.size (stk k).cells rfl rfl 27 nil0.cells hR (sz27 (stk k)) rfl (cells_one _) ?_))
      obtain ⟨d, hd⟩ := under27
      refine bodyPost_ret (results_row_tmp rfl _ _ w.heap.size 27 (stk k).cells (0, 0) _ rfl (setRow_heap _ _ _ _ _ _ hR) hd rfl (sz27 (stk k))) rfl ?_
      exact ⟨rfl, row_on hO hlt _⟩
end Go.Proofs.YtjainkepgmdkiaaDoor.Tg
