/-
  Time adds up: the law's walk.
-/
import Derived.Test.YtjainkepgmdkiaaDoorTt
import Derived.Test.YtjainkepgmdkiaaDoorTs
namespace Go.Proofs.YtjainkepgmdkiaaDoor.Ua
open Go.RowKit Go.Proofs.YtjainkepgmdkiaaDoor.B Go.Proofs.YtjainkepgmdkiaaDoor.E Go.Proofs.YtjainkepgmdkiaaDoor.Ta Go.Proofs.YtjainkepgmdkiaaDoor.Tb Go.Proofs.YtjainkepgmdkiaaDoor.Tc Go.Proofs.YtjainkepgmdkiaaDoor.Tz Go.Proofs.YtjainkepgmdkiaaDoor.Te Go.Proofs.YtjainkepgmdkiaaDoor.Tf Go.Proofs.YtjainkepgmdkiaaDoor.Tg Go.Proofs.YtjainkepgmdkiaaDoor.Th Go.Proofs.YtjainkepgmdkiaaDoor.Ti Go.Proofs.YtjainkepgmdkiaaDoor.Tj Go.Proofs.YtjainkepgmdkiaaDoor.Ts Go.Proofs.YtjainkepgmdkiaaDoor.Tt
/-- What Pass tells, spelled out. -/
abbrev PassIs (s : Tm) (now : Int) (T : Tm) (E : Int) : Prop := ∀ W, Gl W → Calls Tryd.prog 12 #[.agg #[.int .i64 s.m, .int .i64 s.t, .int .i64 s.a, .int .i64 s.b, .int .i64 s.c, .int .i64 s.d], .int .i64 now] W fun e w' => e = .returned (.tuple #[.agg #[.int .i64 T.m, .int .i64 T.t, .int .i64 T.a, .int .i64 T.b, .int .i64 T.c, .int .i64 T.d], .int .i64 E]) ∧ Below W.heap.size W w'
theorem pass_is (s : Tm) (now : Int) : PassIs s now (passR s now).1 (passR s now).2 := fun W h => pass_c s now W h
abbrev LawIs (f : FuncId) (args : Array Value) (w : World) : Prop := Calls Tryd.prog f args w fun e w' => e = .returned (.bool true) ∧ Below w.heap.size w w'
theorem six {w : World} {g : Nat} {s : Tm} (h : Blk w g 27 s.cells) : w.cell? ⟨g, 0, none⟩ = some (.int .i64 s.m) ∧ w.cell? ⟨g, 1, none⟩ = some (.int .i64 s.t) ∧ w.cell? ⟨g, 2, none⟩ = some (.int .i64 s.a) ∧ w.cell? ⟨g, 3, none⟩ = some (.int .i64 s.b) ∧ w.cell? ⟨g, 4, none⟩ = some (.int .i64 s.c) ∧ w.cell? ⟨g, 5, none⟩ = some (.int .i64 s.d) :=
  ⟨h.cell 0, h.cell 1, h.cell 2, h.cell 3, h.cell 4, h.cell 5⟩
set_option maxHeartbeats 4000000 in
set_option maxRecDepth 100000 in
theorem adds_out (s A : Tm) (E now later : Int) (w : World) (hG : Gl w) (h1 : PassIs s now A E) (hc : E ≠ 0 ∨ later < now ∨ 1099511627776 < later) : LawIs 7 #[.agg s.cells, .int .i64 now, .int .i64 later] w := by
  have H1 := Lib.hid h1
  clear h1
  have q1 := Blk.new w 27 s.cells
  have b1 : Below w.heap.size w (w.alloc (.cells s.cells 27)) := (Below.refl _ _).alloc (Nat.le_refl _) _
  have G1 := hG.alloc (.cells s.cells 27)
  clear hG
  change Calls Tryd.prog 7 #[.agg #[.int .i64 s.m, .int .i64 s.t, .int .i64 s.a, .int .i64 s.b, .int .i64 s.c, .int .i64 s.d], .int .i64 now, .int .i64 later] w _
  go_enter Tryd.func7, Tryd.ntmps7
  go_wp2_with fail
  change Calls _ _ _ (w.alloc (.cells s.cells 27)) _
  generalize w.alloc (.cells s.cells 27) = W1 at q1 b1 G1 ⊢
  refine (sanity_walk W1 G1).mono ?_
  rintro e w2 ⟨rfl, hb2⟩
  have q2 := q1.below hb2 q1.lt
  have G2 := G1.next hb2
  have b2 := below_next b1 hb2
  clear q1 b1 G1 hb2
  obtain ⟨c0, c1, c2, c3, c4, c5⟩ := six q2
  go_wp2_with fail
  refine (H1.out w2 G2).mono ?_
  rintro e w3 ⟨rfl, hb3⟩
  have b3 := below_next b2 hb3
  have b4 := b3.alloc b3.size (.cells #[.int .i64 A.m, .int .i64 A.t, .int .i64 A.a, .int .i64 A.b, .int .i64 A.c, .int .i64 A.d] 27)
  clear c0 c1 c2 c3 c4 c5 q2 G2 b2 hb3
  by_cases hE : E = 0
  · have z : (E != 0) = false := by simp [hE]
    by_cases hl : later < now
    · clear hc hE
      go_wp2
      go_ret
      exact ⟨rfl, b4⟩
    · have hM : 1099511627776 < later := by omega
      have d1 : decide (later < now) = false := decide_eq_false hl
      clear hc hE
      go_wp2
      go_ret
      exact ⟨rfl, b4⟩
  · have z : (E != 0) = true := by simp [hE]
    clear hc hE
    go_wp2
    go_ret
    exact ⟨rfl, b4⟩
set_option maxHeartbeats 4000000 in
set_option maxRecDepth 100000 in
theorem adds_in (s A T : Tm) (now later : Int) (w : World) (hG : Gl w) (h1 : PassIs s now A 0) (h2 : PassIs A later T 0) (h3 : PassIs s later T 0) (hl : now ≤ later) (hM : later ≤ 1099511627776) : LawIs 7 #[.agg s.cells, .int .i64 now, .int .i64 later] w := by
  have H1 := Lib.hid h1
  have H2 := Lib.hid h2
  have H3 := Lib.hid h3
  clear h1 h2 h3
  have d1 : decide (later < now) = false := decide_eq_false (by omega)
  have d2 : decide (1099511627776 < later) = false := decide_eq_false (by omega)
  have q1 := Blk.new w 27 s.cells
  have b1 : Below w.heap.size w (w.alloc (.cells s.cells 27)) := (Below.refl _ _).alloc (Nat.le_refl _) _
  have G1 := hG.alloc (.cells s.cells 27)
  clear hG
  change Calls Tryd.prog 7 #[.agg #[.int .i64 s.m, .int .i64 s.t, .int .i64 s.a, .int .i64 s.b, .int .i64 s.c, .int .i64 s.d], .int .i64 now, .int .i64 later] w _
  go_enter Tryd.func7, Tryd.ntmps7
  go_wp2_with fail
  change Calls _ _ _ (w.alloc (.cells s.cells 27)) _
  generalize w.alloc (.cells s.cells 27) = W1 at q1 b1 G1 ⊢
  refine (sanity_walk W1 G1).mono ?_
  rintro e w2 ⟨rfl, hb2⟩
  have q2 := q1.below hb2 q1.lt
  have G2 := G1.next hb2
  have b2 := below_next b1 hb2
  clear q1 b1 G1 hb2
  obtain ⟨c0, c1, c2, c3, c4, c5⟩ := six q2
  go_wp2_with fail
  refine (H1.out w2 G2).mono ?_
  rintro e w3 ⟨rfl, hb3⟩
  have q3 := (q2.below hb3 q2.lt).alloc (.cells A.cells 27)
  have G3 := (G2.next hb3).alloc (.cells A.cells 27)
  have b3 := below_next b2 hb3
  have b4 := b3.alloc b3.size (.cells A.cells 27)
  clear c0 c1 c2 c3 c4 c5 q2 G2 b2 hb3
  go_wp2_with fail
  change Calls _ _ _ (w3.alloc (.cells A.cells 27)) _
  generalize w3.alloc (.cells A.cells 27) = W4 at q3 G3 b4 ⊢
  refine (H2.out W4 G3).mono ?_
  rintro e w5 ⟨rfl, hb5⟩
  have q5 := q3.below hb5 q3.lt
  have G5 := (G3.next hb5).alloc (.cells T.cells 27)
  have b5 := below_next b4 hb5
  have b6 := b5.alloc b5.size (.cells T.cells 27)
  have t5 := Blk.new w5 27 T.cells
  have lq := q5.lt
  have q6 := q5.alloc (.cells T.cells 27)
  obtain ⟨c0, c1, c2, c3, c4, c5⟩ := six q5
  clear q3 G3 b4 hb5
  go_wp2_with fail
  change Calls _ _ _ (w5.alloc (.cells T.cells 27)) _
  generalize w5.alloc (.cells T.cells 27) = W6 at G5 b6 t5 q6 ⊢
  refine (H3.out W6 G5).mono ?_
  rintro e w7 ⟨rfl, hb7⟩
  have t7 := (t5.below hb7 t5.lt).alloc (.cells T.cells 27)
  have b7 := below_next b6 hb7
  have b8 := b7.alloc b7.size (.cells T.cells 27)
  have t8 := Blk.new w7 27 T.cells
  clear c0 c1 c2 c3 c4 c5 q5 q6 G5 b5 b6 t5 hb7 lq
  obtain ⟨d, hd⟩ := under27
  have HD := Lib.hid hd
  clear hd
  go_wp2_with (first
    | ((with_reducible refine gate_dst (N := 55) rfl ?_); refine gate_guard (by rfl) ?_; refine wpList_load_row rfl 27 (.tmp 10) rfl w5.heap.size rfl 27 T.cells (0, 0) _ t7 HD.out rfl (sz27 T) ?_)
    | ((with_reducible refine gate_dst (N := 56) rfl ?_); refine gate_guard (by rfl) ?_; refine wpList_load_row rfl 27 (.tmp 12) rfl w7.heap.size rfl 27 T.cells (0, 0) _ t8 HD.out rfl (sz27 T) ?_)
    | ((with_reducible refine gate_dst (N := 57) rfl ?_); refine gate_guard (by rfl) ?_; refine wpList_bin_agg rfl .eql 27 27 (.tmp 55) (.tmp 56) T.cells T.cells (.bool true) rfl rfl rfl guard27 (eql_tm T) ?_))
  go_ret
  exact ⟨rfl, b8⟩
theorem adds_walk (s : Tm) (now later : Int) (w : World) (hG : Gl w) : LawIs 7 #[.agg s.cells, .int .i64 now, .int .i64 later] w := by
  have h1 := pass_is s now
  by_cases hE : (passR s now).2 = 0
  · obtain ⟨hv, h0, hM, ht, he⟩ := pass_good hE
    rw [he, hE] at h1
    by_cases hl : now ≤ later ∧ later ≤ 1099511627776
    · obtain ⟨v1, t1⟩ := pst_valid hv ht hM
      have h2 := pass_is (pst s now) later
      have h3 := pass_is s later
      rw [pass_ok v1 (by omega) hl.2, pst_twice hv.2.2 now later ht hl.1] at h2
      rw [pass_ok hv (by omega) hl.2] at h3
      exact adds_in s _ _ now later w hG h1 h2 h3 hl.1 hl.2
    · exact adds_out s _ 0 now later w hG h1 (by omega)
  · exact adds_out s _ _ now later w hG h1 (.inl hE)
end Go.Proofs.YtjainkepgmdkiaaDoor.Ua
