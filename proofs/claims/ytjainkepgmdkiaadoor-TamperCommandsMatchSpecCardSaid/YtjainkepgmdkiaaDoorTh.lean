/-
  Pass and Step, whole: the walks.
-/
import Derived.Test.YtjainkepgmdkiaaDoorTg
namespace Go.Proofs.YtjainkepgmdkiaaDoor.Th
open Go.RowKit Go.Proofs.YtjainkepgmdkiaaDoor.B Go.Proofs.YtjainkepgmdkiaaDoor.Ta Go.Proofs.YtjainkepgmdkiaaDoor.Tb Go.Proofs.YtjainkepgmdkiaaDoor.Tc Go.Proofs.YtjainkepgmdkiaaDoor.Tz Go.Proofs.YtjainkepgmdkiaaDoor.Te Go.Proofs.YtjainkepgmdkiaaDoor.Tf Go.Proofs.YtjainkepgmdkiaaDoor.Tg

/-- A state and an error. -/
abbrev Gives (f : FuncId) (args : Array Value) (s : Tm) (E : Int) (w : World) : Prop := Calls Tryd.prog f args w fun e w' => e = .returned (.tuple #[.agg s.cells, .int .i64 E]) ∧ Below w.heap.size w w'
def fn (F g : Nat) : Value := .func (.func F) #[.pointer (some ⟨g, 0, none⟩)] #[]
/-- What apply tells of a change with these steps. -/
def Applies (s : Tm) (sn lv now : Int) (fs : Nat → Array Value) (n : Nat) (R : Tm) (E : Int) : Prop :=
  ∀ (W : World) (g f : Nat), Blk W g 55 (cv s sn lv now) → Blk W f 1 (fs g) → f ≠ g → Gl W → g ≠ 0 → Calls Tryd.prog 25 #[.pointer (some ⟨g, 0, none⟩), .slice (some ⟨f, 0, none⟩) n n] W fun e w' => e = .returned (.tuple #[.agg R.cells, .int .i64 E]) ∧ On W w' g
theorem size_alloc (w : World) (o : Obj) : (w.alloc o).heap.size = w.heap.size + 1 := by show (w.heap.push _).size = _; simp
set_option maxHeartbeats 4000000 in
set_option maxRecDepth 100000 in
theorem pass_frame (s : Tm) (now : Int) (w : World) (hG : Gl w) (R : Tm) (E : Int) (h : Applies s 1 0 now (fun g => #[fn 26 g]) 1 R E) : Gives 12 #[.agg s.cells, .int .i64 now] R E w := by
  have b1 : Below w.heap.size w (w.alloc (.cells s.cells 27)) := (Below.refl _ _).alloc (Nat.le_refl _) _
  have b2 := b1.alloc b1.size (.cells nil0.cells 27)
  have r2 := Blk.new (w.alloc (.cells s.cells 27)) 27 nil0.cells
  have b3 := b2.alloc b2.size (.cells (cv s 1 0 now) 55)
  have r3 := r2.alloc (.cells (cv s 1 0 now) 55)
  have g3 := Blk.new ((w.alloc (.cells s.cells 27)).alloc (.cells nil0.cells 27)) 55 (cv s 1 0 now)
  have b4 := b3.alloc b3.size (.cells #[fn 26 (w.heap.size + 1 + 1)] 1)
  have r4 := r3.alloc (.cells #[fn 26 (w.heap.size + 1 + 1)] 1)
  have g4 := g3.alloc (.cells #[fn 26 (w.heap.size + 1 + 1)] 1)
  have f4 := Blk.new (((w.alloc (.cells s.cells 27)).alloc (.cells nil0.cells 27)).alloc (.cells (cv s 1 0 now) 55)) 1 #[fn 26 (w.heap.size + 1 + 1)]
  have hG4 := hG.below b4 hG.lt
  simp only [size_alloc] at r4 g4 f4
  clear b1 b2 b3 r2 r3 g3 hG
  have H := Lib.hid h
  clear h
  change Calls Tryd.prog 12 #[.agg #[.int .i64 s.m, .int .i64 s.t, .int .i64 s.a, .int .i64 s.b, .int .i64 s.c, .int .i64 s.d], .int .i64 now] w _
  go_enter Tryd.func12, Tryd.ntmps12
  go_wp2_with fail
  change Calls _ _ _ ((((w.alloc (.cells s.cells 27)).alloc (.cells nil0.cells 27)).alloc (.cells (cv s 1 0 now) 55)).alloc (.cells #[fn 26 (w.heap.size + 1 + 1)] 1)) _
  generalize (((w.alloc (.cells s.cells 27)).alloc (.cells nil0.cells 27)).alloc (.cells (cv s 1 0 now) 55)).alloc (.cells #[fn 26 (w.heap.size + 1 + 1)] 1) = W4 at b4 r4 g4 f4 hG4 ⊢
  have hc := H.out W4 _ _ g4 f4 (by omega) hG4 (by omega)
  refine hc.mono ?_
  rintro e w5 ⟨rfl, hO⟩
  have r5 := Blk.on r4 hO (by omega)
  have b5 := hO.below b4 (by omega) b4.size
  clear hc hO r4 g4 f4 hG4 b4
  go_wp2_with (first | ((with_reducible refine gate_store (t := 27) (p := 4) (v := .tmp 17) rfl ?_); refine wpList_store_row rfl 27 (.tmp 4) (.tmp 17) rfl (w.heap.size + 1) R.cells rfl rfl 27 nil0.cells r5 (sz27 R) rfl (cells_one _) ?_))
  obtain ⟨d, hd⟩ := under27
  refine bodyPost_ret (results_row_tmp rfl _ _ (w.heap.size + 1) 27 R.cells (0, 0) _ rfl (setRow_heap _ _ _ _ _ _ r5) hd rfl (sz27 R)) rfl ?_
  exact ⟨rfl, below_setRow b5 (by omega) _⟩
set_option maxHeartbeats 4000000 in
set_option maxRecDepth 100000 in
theorem step_frame (s : Tm) (sn lv now : Int) (w : World) (hG : Gl w) (R : Tm) (E : Int) (h : Applies s sn lv now (fun g => #[fn 26 g, fn 27 g, fn 28 g]) 3 R E) : Gives 11 #[.agg s.cells, .agg #[.int .i64 sn, .int .i64 lv], .int .i64 now] R E w := by
  have b1 : Below w.heap.size w (w.alloc (.cells s.cells 27)) := (Below.refl _ _).alloc (Nat.le_refl _) _
  have b1' := b1.alloc b1.size (.cells #[.int .i64 sn, .int .i64 lv] 35)
  have b2 := b1'.alloc b1'.size (.cells nil0.cells 27)
  have r2 := Blk.new ((w.alloc (.cells s.cells 27)).alloc (.cells #[.int .i64 sn, .int .i64 lv] 35)) 27 nil0.cells
  have b3 := b2.alloc b2.size (.cells (cv s sn lv now) 55)
  have r3 := r2.alloc (.cells (cv s sn lv now) 55)
  have g3 := Blk.new (((w.alloc (.cells s.cells 27)).alloc (.cells #[.int .i64 sn, .int .i64 lv] 35)).alloc (.cells nil0.cells 27)) 55 (cv s sn lv now)
  have b4 := b3.alloc b3.size (.cells #[fn 26 (w.heap.size + 1 + 1 + 1), fn 27 (w.heap.size + 1 + 1 + 1), fn 28 (w.heap.size + 1 + 1 + 1)] 1)
  have r4 := r3.alloc (.cells #[fn 26 (w.heap.size + 1 + 1 + 1), fn 27 (w.heap.size + 1 + 1 + 1), fn 28 (w.heap.size + 1 + 1 + 1)] 1)
  have g4 := g3.alloc (.cells #[fn 26 (w.heap.size + 1 + 1 + 1), fn 27 (w.heap.size + 1 + 1 + 1), fn 28 (w.heap.size + 1 + 1 + 1)] 1)
  have f4 := Blk.new ((((w.alloc (.cells s.cells 27)).alloc (.cells #[.int .i64 sn, .int .i64 lv] 35)).alloc (.cells nil0.cells 27)).alloc (.cells (cv s sn lv now) 55)) 1 #[fn 26 (w.heap.size + 1 + 1 + 1), fn 27 (w.heap.size + 1 + 1 + 1), fn 28 (w.heap.size + 1 + 1 + 1)]
  have hG4 := hG.below b4 hG.lt
  simp only [size_alloc] at r4 g4 f4
  clear b1 b1' b2 b3 r2 r3 g3 hG
  have H := Lib.hid h
  clear h
  change Calls Tryd.prog 11 #[.agg #[.int .i64 s.m, .int .i64 s.t, .int .i64 s.a, .int .i64 s.b, .int .i64 s.c, .int .i64 s.d], .agg #[.int .i64 sn, .int .i64 lv], .int .i64 now] w _
  go_enter Tryd.func11, Tryd.ntmps11
  go_wp2_with fail
  change Calls _ _ _ (((((w.alloc (.cells s.cells 27)).alloc (.cells #[.int .i64 sn, .int .i64 lv] 35)).alloc (.cells nil0.cells 27)).alloc (.cells (cv s sn lv now) 55)).alloc (.cells #[fn 26 (w.heap.size + 1 + 1 + 1), fn 27 (w.heap.size + 1 + 1 + 1), fn 28 (w.heap.size + 1 + 1 + 1)] 1)) _
  generalize ((((w.alloc (.cells s.cells 27)).alloc (.cells #[.int .i64 sn, .int .i64 lv] 35)).alloc (.cells nil0.cells 27)).alloc (.cells (cv s sn lv now) 55)).alloc (.cells #[fn 26 (w.heap.size + 1 + 1 + 1), fn 27 (w.heap.size + 1 + 1 + 1), fn 28 (w.heap.size + 1 + 1 + 1)] 1) = W4 at b4 r4 g4 f4 hG4 ⊢
  have hc := H.out W4 _ _ g4 f4 (by omega) hG4 (by omega)
  refine hc.mono ?_
  rintro e w5 ⟨rfl, hO⟩
  have r5 := Blk.on r4 hO (by omega)
  have b5 := hO.below b4 (by omega) b4.size
  clear hc hO r4 g4 f4 hG4 b4
  go_wp2_with (first | ((with_reducible refine gate_store (t := 27) (p := 6) (v := .tmp 23) rfl ?_); refine wpList_store_row rfl 27 (.tmp 6) (.tmp 23) rfl (w.heap.size + 1 + 1) R.cells rfl rfl 27 nil0.cells r5 (sz27 R) rfl (cells_one _) ?_))
  obtain ⟨d, hd⟩ := under27
  refine bodyPost_ret (results_row_tmp rfl _ _ (w.heap.size + 1 + 1) 27 R.cells (0, 0) _ rfl (setRow_heap _ _ _ _ _ _ r5) hd rfl (sz27 R)) rfl ?_
  exact ⟨rfl, below_setRow b5 (by omega) _⟩

/-- The state behind the first step: time has passed, unless the state is over. -/
def pst (s : Tm) (now : Int) : Tm := if s.m < 4 then passedK s ((now - s.t) / 60) else s
def cst (s : Tm) (sn lv : Int) : Tm := if s.m < 4 then counted s sn lv else s
def est (s : Tm) (sn lv : Int) : Tm := if s.m < 4 then escalated s sn lv else s
def stp (s : Tm) (sn lv now : Int) : Tm := est (cst (pst s now) sn lv) sn lv
theorem pst_scores {s : Tm} (h : Scores s) {now : Int} (ht : s.t ≤ now) : Scores (pst s now) := by
  unfold pst
  split
  · have hK : 0 ≤ (now - s.t) / 60 := by omega
    exact ⟨low_bound h.1 hK, low_bound h.2.1 hK, low_bound h.2.2.1 hK, low_bound h.2.2.2 hK⟩
  · exact h
theorem cst_scores {s : Tm} (h : Scores s) (sn lv : Int) : Scores (cst s sn lv) := by
  unfold cst
  split
  · exact counted_scores h sn lv
  · exact h
theorem one_step {s s' : Tm} {sn lv now : Int} {g F : Nat} {f : Tm} (hs' : s' = if s.m < 4 then f else s) (h : ∀ W, Blk W g 55 (cv s sn lv now) → Gl W → Calls Tryd.prog F #[.pointer (some ⟨g, 0, none⟩)] W fun e w' => e = .returned (.tuple #[]) ∧ Blk w' g 55 (cv f sn lv now) ∧ On W w' g) :
    (s.m < 4 → ∀ W, Blk W g 55 (cv s sn lv now) → Gl W → Calls Tryd.prog F #[.pointer (some ⟨g, 0, none⟩)] W fun e w' => e = .returned (.tuple #[]) ∧ Blk w' g 55 (cv s' sn lv now) ∧ On W w' g) ∧ (¬ s.m < 4 → s' = s) :=
  ⟨fun hm => by rw [hs', if_pos hm]; exact h, fun hm => by rw [hs', if_neg hm]⟩
theorem app_bad {s : Tm} {sn lv now : Int} {fs : Nat → Array Value} {n : Nat} (h : ¬ Vld s) : Applies s sn lv now fs n nil0 1 := fun W g _ hB _ _ _ _ => (apply_bad s sn lv now g _ n n W hB h).mono fun _ _ h => ⟨h.1, .of_below h.2⟩
theorem app_when {s : Tm} {sn lv now : Int} {fs : Nat → Array Value} {n : Nat} (h : Vld s) (hn : now < 0 ∨ 1099511627776 < now) : Applies s sn lv now fs n nil0 1 := fun W g _ hB _ _ _ _ => (apply_when s sn lv now g _ n n W hB h hn).mono fun _ _ h => ⟨h.1, .of_below h.2⟩
theorem app_back {s : Tm} {sn lv now : Int} {fs : Nat → Array Value} {n : Nat} (h : Vld s) (h0 : 0 ≤ now) (h1 : now ≤ 1099511627776) (ht : now < s.t) : Applies s sn lv now fs n nil0 20 := fun W g _ hB _ _ _ _ => (apply_back s sn lv now g _ n n W hB h h0 h1 ht).mono fun _ _ h => ⟨h.1, .of_below h.2⟩
theorem app_who {s : Tm} {sn lv now : Int} {fs : Nat → Array Value} {n : Nat} (h : Vld s) (h0 : 0 ≤ now) (h1 : now ≤ 1099511627776) (ht : s.t ≤ now) (hk : sn < 1 ∨ 4 < sn) : Applies s sn lv now fs n nil0 1 := fun W g _ hB _ _ _ _ => (apply_who s sn lv now g _ n n W hB h h0 h1 ht hk).mono fun _ _ h => ⟨h.1, .of_below h.2⟩
theorem app_pass {s : Tm} {sn lv now : Int} (h : Vld s) (h1 : now ≤ 1099511627776) (ht : s.t ≤ now) (k1 : 1 ≤ sn) (k4 : sn ≤ 4) : Applies s sn lv now (fun g => #[fn 26 g]) 1 (pst s now) 0 := fun W g f hB hF hfg hG hg0 => by
  have h0 : 0 ≤ now := by have := h.2.1; omega
  refine apply_walk s sn lv now g f _ 1 (fun k => match k with | 0 => s | _ => pst s now) W hB hF hfg hG hg0 h h0 h1 ht k1 k4 rfl ?_ (by omega)
  intro k hk
  obtain rfl : k = 0 := by omega
  exact ⟨26, .inl rfl, rfl, one_step rfl fun W hB _ => pass_walk s sn lv now g W h.2.2 h.2.1.1 ht h1 hB⟩
theorem app_step {s : Tm} {sn lv now : Int} (h : Vld s) (h1 : now ≤ 1099511627776) (ht : s.t ≤ now) (k1 : 1 ≤ sn) (k4 : sn ≤ 4) : Applies s sn lv now (fun g => #[fn 26 g, fn 27 g, fn 28 g]) 3 (stp s sn lv now) 0 := fun W g f hB hF hfg hG hg0 => by
  have h0 : 0 ≤ now := by have := h.2.1; omega
  have s1 := pst_scores h.2.2 ht
  have s2 := cst_scores s1 sn lv
  refine apply_walk s sn lv now g f _ 3 (fun k => match k with | 0 => s | 1 => pst s now | 2 => cst (pst s now) sn lv | _ => stp s sn lv now) W hB hF hfg hG hg0 h h0 h1 ht k1 k4 rfl ?_ (by omega)
  intro k hk
  have hc : k = 0 ∨ k = 1 ∨ k = 2 := by omega
  rcases hc with rfl | rfl | rfl
  · exact ⟨26, .inl rfl, rfl, one_step rfl fun W hB _ => pass_walk s sn lv now g W h.2.2 h.2.1.1 ht h1 hB⟩
  · exact ⟨27, .inr (.inl rfl), rfl, one_step rfl fun W hB hG => count_walk (pst s now) sn lv now g W s1 k1 k4 hB hG hg0⟩
  · exact ⟨28, .inr (.inr rfl), rfl, one_step rfl fun W hB hG => esc_walk (cst (pst s now) sn lv) sn lv now g W s2 k1 k4 hB hG⟩
end Go.Proofs.YtjainkepgmdkiaaDoor.Th
