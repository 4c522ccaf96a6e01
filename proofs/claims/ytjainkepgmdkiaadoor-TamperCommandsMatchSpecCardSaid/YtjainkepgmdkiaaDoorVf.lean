/-
  The commands match their specification: the law's walk. (Written by a program.)
-/
import Derived.Test.YtjainkepgmdkiaaDoorVe
import Derived.Test.YtjainkepgmdkiaaDoorVc
import Derived.Test.YtjainkepgmdkiaaDoorTk
import Derived.Test.YtjainkepgmdkiaaDoorUc
namespace Go.Proofs.YtjainkepgmdkiaaDoor.Vf
open Go.RowKit Go.Proofs.YtjainkepgmdkiaaDoor.B Go.Proofs.YtjainkepgmdkiaaDoor.E Go.Proofs.YtjainkepgmdkiaaDoor.Ta Go.Proofs.YtjainkepgmdkiaaDoor.Tb Go.Proofs.YtjainkepgmdkiaaDoor.Tc Go.Proofs.YtjainkepgmdkiaaDoor.Tz Go.Proofs.YtjainkepgmdkiaaDoor.Te Go.Proofs.YtjainkepgmdkiaaDoor.Tf Go.Proofs.YtjainkepgmdkiaaDoor.Tg Go.Proofs.YtjainkepgmdkiaaDoor.Th Go.Proofs.YtjainkepgmdkiaaDoor.Ti Go.Proofs.YtjainkepgmdkiaaDoor.Tj Go.Proofs.YtjainkepgmdkiaaDoor.Tk Go.Proofs.YtjainkepgmdkiaaDoor.Tp Go.Proofs.YtjainkepgmdkiaaDoor.Ts Go.Proofs.YtjainkepgmdkiaaDoor.Tt Go.Proofs.YtjainkepgmdkiaaDoor.To Go.Proofs.YtjainkepgmdkiaaDoor.Ua Go.Proofs.YtjainkepgmdkiaaDoor.Uc Go.Proofs.YtjainkepgmdkiaaDoor.Vb Go.Proofs.YtjainkepgmdkiaaDoor.Vc Go.Proofs.YtjainkepgmdkiaaDoor.Ve
abbrev EndIs (f : FuncId) (args : Array Value) (T : Tm) (E : Int) : Prop := ∀ W, Calls Tryd.prog f args W fun e w' => e = .returned (.tuple #[.agg #[.int .i64 T.m, .int .i64 T.t, .int .i64 T.a, .int .i64 T.b, .int .i64 T.c, .int .i64 T.d], .int .i64 E]) ∧ Below W.heap.size W w'
set_option maxHeartbeats 16000000 in
set_option maxRecDepth 100000 in
theorem com_at (s A C X : Tm) (now e d i x y P : Int) (w : World) (hG : Gl w) (h1 : UnlIs s now A e) (h2 : EndIs 16 #[.agg #[.int .i64 s.m, .int .i64 s.t, .int .i64 s.a, .int .i64 s.b, .int .i64 s.c, .int .i64 s.d], .int .i64 now] A e) (h3 : EndIs 17 #[.agg #[.int .i64 s.m, .int .i64 s.t, .int .i64 s.a, .int .i64 s.b, .int .i64 s.c, .int .i64 s.d]] C d) (h4 : EndIs 18 #[.agg #[.int .i64 s.m, .int .i64 s.t, .int .i64 s.a, .int .i64 s.b, .int .i64 s.c, .int .i64 s.d]] C d) (h5 : EndIs 19 #[.agg #[.int .i64 s.m, .int .i64 s.t, .int .i64 s.a, .int .i64 s.b, .int .i64 s.c, .int .i64 s.d]] X i) (h6 : EndIs 20 #[.agg #[.int .i64 s.m, .int .i64 s.t, .int .i64 s.a, .int .i64 s.b, .int .i64 s.c, .int .i64 s.d]] X i) (p1 : Says 14 x y P) (p2 : Says 21 x y P) :
    LawIs 5 #[.agg s.cells, .int .i64 now, .agg #[.int .i64 x, .int .i64 y]] w := by
  have q := (Blk.new w 27 s.cells).alloc (.cells #[.int .i64 x, .int .i64 y] 41)
  have r := Blk.new (w.alloc (.cells s.cells 27)) 41 #[.int .i64 x, .int .i64 y]
  simp only [size_alloc] at r
  have b : Below w.heap.size w ((w.alloc (.cells s.cells 27)).alloc (.cells #[.int .i64 x, .int .i64 y] 41)) := ((Below.refl _ _).alloc (Nat.le_refl _) _).alloc (by rw [size_alloc]; omega) _
  have G := (hG.alloc (.cells s.cells 27)).alloc (.cells #[.int .i64 x, .int .i64 y] 41)
  have H1 := Lib.hid h1
  have H2 := Lib.hid h2
  have H3 := Lib.hid h3
  have H4 := Lib.hid h4
  have H5 := Lib.hid h5
  have H6 := Lib.hid h6
  have P1 := Lib.hid p1
  have P2 := Lib.hid p2
  clear hG h1 h2 h3 h4 h5 h6 p1 p2
  change Calls Tryd.prog 5 #[.agg #[.int .i64 s.m, .int .i64 s.t, .int .i64 s.a, .int .i64 s.b, .int .i64 s.c, .int .i64 s.d], .int .i64 now, .agg #[.int .i64 x, .int .i64 y]] w _
  go_enter Tryd.func5, Tryd.ntmps5
  go_wp2_with fail
  change Calls _ _ _ ((w.alloc (.cells s.cells 27)).alloc (.cells #[.int .i64 x, .int .i64 y] 41)) _
  generalize (w.alloc (.cells s.cells 27)).alloc (.cells #[.int .i64 x, .int .i64 y] 41) = W0 at q r b G ⊢
  refine (sanity_walk W0 G).mono ?_
  rintro e' v0 ⟨rfl, hb⟩
  replace q := q.below hb q.lt
  replace r := r.below hb r.lt
  replace G := G.next hb
  replace b := below_next b hb
  clear hb
  obtain ⟨c0, c1, c2, c3, c4, c5⟩ := six q
  go_wp2_with fail
  refine (H1.out v0 G).mono ?_
  rintro e' v1 ⟨rfl, hb⟩
  replace q := q.below hb q.lt
  replace r := r.below hb r.lt
  replace b := below_next b hb
  clear hb c0 c1 c2 c3 c4 c5
  have a1 : Blk (v1.alloc (.cells #[.int .i64 A.m, .int .i64 A.t, .int .i64 A.a, .int .i64 A.b, .int .i64 A.c, .int .i64 A.d] 27)) v1.heap.size 27 A.cells := Blk.new v1 27 A.cells
  have lq := q.lt
  obtain ⟨c0, c1, c2, c3, c4, c5⟩ := six q
  go_wp2_with fail
  clear lq c0 c1 c2 c3 c4 c5
  replace q := q.alloc (.cells #[.int .i64 A.m, .int .i64 A.t, .int .i64 A.a, .int .i64 A.b, .int .i64 A.c, .int .i64 A.d] 27)
  replace r := r.alloc (.cells #[.int .i64 A.m, .int .i64 A.t, .int .i64 A.a, .int .i64 A.b, .int .i64 A.c, .int .i64 A.d] 27)
  replace b := b.alloc b.size (.cells #[.int .i64 A.m, .int .i64 A.t, .int .i64 A.a, .int .i64 A.b, .int .i64 A.c, .int .i64 A.d] 27)
  generalize v1.alloc (.cells #[.int .i64 A.m, .int .i64 A.t, .int .i64 A.a, .int .i64 A.b, .int .i64 A.c, .int .i64 A.d] 27) = W1 at q r b a1 ⊢
  obtain ⟨c0, c1, c2, c3, c4, c5⟩ := six q
  refine (H2.out W1).mono ?_
  rintro e' v2 ⟨rfl, hb⟩
  replace q := q.below hb q.lt
  replace r := r.below hb r.lt
  replace b := below_next b hb
  replace a1 := a1.below hb a1.lt
  clear hb c0 c1 c2 c3 c4 c5
  have a2 : Blk (v2.alloc (.cells #[.int .i64 A.m, .int .i64 A.t, .int .i64 A.a, .int .i64 A.b, .int .i64 A.c, .int .i64 A.d] 27)) v2.heap.size 27 A.cells := Blk.new v2 27 A.cells
  have lq := q.lt
  obtain ⟨c0, c1, c2, c3, c4, c5⟩ := six q
  go_wp2_with fail
  clear lq c0 c1 c2 c3 c4 c5
  replace a1 := a1.alloc (.cells #[.int .i64 A.m, .int .i64 A.t, .int .i64 A.a, .int .i64 A.b, .int .i64 A.c, .int .i64 A.d] 27)
  replace q := q.alloc (.cells #[.int .i64 A.m, .int .i64 A.t, .int .i64 A.a, .int .i64 A.b, .int .i64 A.c, .int .i64 A.d] 27)
  replace r := r.alloc (.cells #[.int .i64 A.m, .int .i64 A.t, .int .i64 A.a, .int .i64 A.b, .int .i64 A.c, .int .i64 A.d] 27)
  replace b := b.alloc b.size (.cells #[.int .i64 A.m, .int .i64 A.t, .int .i64 A.a, .int .i64 A.b, .int .i64 A.c, .int .i64 A.d] 27)
  generalize v2.alloc (.cells #[.int .i64 A.m, .int .i64 A.t, .int .i64 A.a, .int .i64 A.b, .int .i64 A.c, .int .i64 A.d] 27) = W2 at q r b a1 a2 ⊢
  obtain ⟨c0, c1, c2, c3, c4, c5⟩ := six q
  refine (H3.out W2).mono ?_
  rintro e' v3 ⟨rfl, hb⟩
  replace q := q.below hb q.lt
  replace r := r.below hb r.lt
  replace b := below_next b hb
  replace a1 := a1.below hb a1.lt
  replace a2 := a2.below hb a2.lt
  clear hb c0 c1 c2 c3 c4 c5
  have a3 : Blk (v3.alloc (.cells #[.int .i64 C.m, .int .i64 C.t, .int .i64 C.a, .int .i64 C.b, .int .i64 C.c, .int .i64 C.d] 27)) v3.heap.size 27 C.cells := Blk.new v3 27 C.cells
  have lq := q.lt
  obtain ⟨c0, c1, c2, c3, c4, c5⟩ := six q
  go_wp2_with fail
  clear lq c0 c1 c2 c3 c4 c5
  replace a1 := a1.alloc (.cells #[.int .i64 C.m, .int .i64 C.t, .int .i64 C.a, .int .i64 C.b, .int .i64 C.c, .int .i64 C.d] 27)
  replace a2 := a2.alloc (.cells #[.int .i64 C.m, .int .i64 C.t, .int .i64 C.a, .int .i64 C.b, .int .i64 C.c, .int .i64 C.d] 27)
  replace q := q.alloc (.cells #[.int .i64 C.m, .int .i64 C.t, .int .i64 C.a, .int .i64 C.b, .int .i64 C.c, .int .i64 C.d] 27)
  replace r := r.alloc (.cells #[.int .i64 C.m, .int .i64 C.t, .int .i64 C.a, .int .i64 C.b, .int .i64 C.c, .int .i64 C.d] 27)
  replace b := b.alloc b.size (.cells #[.int .i64 C.m, .int .i64 C.t, .int .i64 C.a, .int .i64 C.b, .int .i64 C.c, .int .i64 C.d] 27)
  generalize v3.alloc (.cells #[.int .i64 C.m, .int .i64 C.t, .int .i64 C.a, .int .i64 C.b, .int .i64 C.c, .int .i64 C.d] 27) = W3 at q r b a1 a2 a3 ⊢
  obtain ⟨c0, c1, c2, c3, c4, c5⟩ := six q
  refine (H4.out W3).mono ?_
  rintro e' v4 ⟨rfl, hb⟩
  replace q := q.below hb q.lt
  replace r := r.below hb r.lt
  replace b := below_next b hb
  replace a1 := a1.below hb a1.lt
  replace a2 := a2.below hb a2.lt
  replace a3 := a3.below hb a3.lt
  clear hb c0 c1 c2 c3 c4 c5
  have a4 : Blk (v4.alloc (.cells #[.int .i64 C.m, .int .i64 C.t, .int .i64 C.a, .int .i64 C.b, .int .i64 C.c, .int .i64 C.d] 27)) v4.heap.size 27 C.cells := Blk.new v4 27 C.cells
  have lq := q.lt
  obtain ⟨c0, c1, c2, c3, c4, c5⟩ := six q
  go_wp2_with fail
  clear lq c0 c1 c2 c3 c4 c5
  replace a1 := a1.alloc (.cells #[.int .i64 C.m, .int .i64 C.t, .int .i64 C.a, .int .i64 C.b, .int .i64 C.c, .int .i64 C.d] 27)
  replace a2 := a2.alloc (.cells #[.int .i64 C.m, .int .i64 C.t, .int .i64 C.a, .int .i64 C.b, .int .i64 C.c, .int .i64 C.d] 27)
  replace a3 := a3.alloc (.cells #[.int .i64 C.m, .int .i64 C.t, .int .i64 C.a, .int .i64 C.b, .int .i64 C.c, .int .i64 C.d] 27)
  replace q := q.alloc (.cells #[.int .i64 C.m, .int .i64 C.t, .int .i64 C.a, .int .i64 C.b, .int .i64 C.c, .int .i64 C.d] 27)
  replace r := r.alloc (.cells #[.int .i64 C.m, .int .i64 C.t, .int .i64 C.a, .int .i64 C.b, .int .i64 C.c, .int .i64 C.d] 27)
  replace b := b.alloc b.size (.cells #[.int .i64 C.m, .int .i64 C.t, .int .i64 C.a, .int .i64 C.b, .int .i64 C.c, .int .i64 C.d] 27)
  generalize v4.alloc (.cells #[.int .i64 C.m, .int .i64 C.t, .int .i64 C.a, .int .i64 C.b, .int .i64 C.c, .int .i64 C.d] 27) = W4 at q r b a1 a2 a3 a4 ⊢
  obtain ⟨c0, c1, c2, c3, c4, c5⟩ := six q
  refine (H5.out W4).mono ?_
  rintro e' v5 ⟨rfl, hb⟩
  replace q := q.below hb q.lt
  replace r := r.below hb r.lt
  replace b := below_next b hb
  replace a1 := a1.below hb a1.lt
  replace a2 := a2.below hb a2.lt
  replace a3 := a3.below hb a3.lt
  replace a4 := a4.below hb a4.lt
  clear hb c0 c1 c2 c3 c4 c5
  have a5 : Blk (v5.alloc (.cells #[.int .i64 X.m, .int .i64 X.t, .int .i64 X.a, .int .i64 X.b, .int .i64 X.c, .int .i64 X.d] 27)) v5.heap.size 27 X.cells := Blk.new v5 27 X.cells
  have lq := q.lt
  obtain ⟨c0, c1, c2, c3, c4, c5⟩ := six q
  go_wp2_with fail
  clear lq c0 c1 c2 c3 c4 c5
  replace a1 := a1.alloc (.cells #[.int .i64 X.m, .int .i64 X.t, .int .i64 X.a, .int .i64 X.b, .int .i64 X.c, .int .i64 X.d] 27)
  replace a2 := a2.alloc (.cells #[.int .i64 X.m, .int .i64 X.t, .int .i64 X.a, .int .i64 X.b, .int .i64 X.c, .int .i64 X.d] 27)
  replace a3 := a3.alloc (.cells #[.int .i64 X.m, .int .i64 X.t, .int .i64 X.a, .int .i64 X.b, .int .i64 X.c, .int .i64 X.d] 27)
  replace a4 := a4.alloc (.cells #[.int .i64 X.m, .int .i64 X.t, .int .i64 X.a, .int .i64 X.b, .int .i64 X.c, .int .i64 X.d] 27)
  replace q := q.alloc (.cells #[.int .i64 X.m, .int .i64 X.t, .int .i64 X.a, .int .i64 X.b, .int .i64 X.c, .int .i64 X.d] 27)
  replace r := r.alloc (.cells #[.int .i64 X.m, .int .i64 X.t, .int .i64 X.a, .int .i64 X.b, .int .i64 X.c, .int .i64 X.d] 27)
  replace b := b.alloc b.size (.cells #[.int .i64 X.m, .int .i64 X.t, .int .i64 X.a, .int .i64 X.b, .int .i64 X.c, .int .i64 X.d] 27)
  generalize v5.alloc (.cells #[.int .i64 X.m, .int .i64 X.t, .int .i64 X.a, .int .i64 X.b, .int .i64 X.c, .int .i64 X.d] 27) = W5 at q r b a1 a2 a3 a4 a5 ⊢
  obtain ⟨c0, c1, c2, c3, c4, c5⟩ := six q
  refine (H6.out W5).mono ?_
  rintro e' v6 ⟨rfl, hb⟩
  replace q := q.below hb q.lt
  replace r := r.below hb r.lt
  replace b := below_next b hb
  replace a1 := a1.below hb a1.lt
  replace a2 := a2.below hb a2.lt
  replace a3 := a3.below hb a3.lt
  replace a4 := a4.below hb a4.lt
  replace a5 := a5.below hb a5.lt
  clear hb c0 c1 c2 c3 c4 c5
  have a6 : Blk (v6.alloc (.cells #[.int .i64 X.m, .int .i64 X.t, .int .i64 X.a, .int .i64 X.b, .int .i64 X.c, .int .i64 X.d] 27)) v6.heap.size 27 X.cells := Blk.new v6 27 X.cells
  go_wp2_with fail
  replace a1 := a1.alloc (.cells #[.int .i64 X.m, .int .i64 X.t, .int .i64 X.a, .int .i64 X.b, .int .i64 X.c, .int .i64 X.d] 27)
  replace a2 := a2.alloc (.cells #[.int .i64 X.m, .int .i64 X.t, .int .i64 X.a, .int .i64 X.b, .int .i64 X.c, .int .i64 X.d] 27)
  replace a3 := a3.alloc (.cells #[.int .i64 X.m, .int .i64 X.t, .int .i64 X.a, .int .i64 X.b, .int .i64 X.c, .int .i64 X.d] 27)
  replace a4 := a4.alloc (.cells #[.int .i64 X.m, .int .i64 X.t, .int .i64 X.a, .int .i64 X.b, .int .i64 X.c, .int .i64 X.d] 27)
  replace a5 := a5.alloc (.cells #[.int .i64 X.m, .int .i64 X.t, .int .i64 X.a, .int .i64 X.b, .int .i64 X.c, .int .i64 X.d] 27)
  replace q := q.alloc (.cells #[.int .i64 X.m, .int .i64 X.t, .int .i64 X.a, .int .i64 X.b, .int .i64 X.c, .int .i64 X.d] 27)
  replace r := r.alloc (.cells #[.int .i64 X.m, .int .i64 X.t, .int .i64 X.a, .int .i64 X.b, .int .i64 X.c, .int .i64 X.d] 27)
  replace b := b.alloc b.size (.cells #[.int .i64 X.m, .int .i64 X.t, .int .i64 X.a, .int .i64 X.b, .int .i64 X.c, .int .i64 X.d] 27)
  generalize v6.alloc (.cells #[.int .i64 X.m, .int .i64 X.t, .int .i64 X.a, .int .i64 X.b, .int .i64 X.c, .int .i64 X.d] 27) = W6 at q r b a1 a2 a3 a4 a5 a6 ⊢
  obtain ⟨I, W, hne, hC, hW⟩ := class_of (fun w' => Blk w' (w.heap.size + 1) 41 #[.int .i64 x, .int .i64 y] ∧ Blk w' v1.heap.size 27 A.cells ∧ Blk w' v2.heap.size 27 A.cells ∧ Blk w' v3.heap.size 27 C.cells ∧ Blk w' v4.heap.size 27 C.cells ∧ Blk w' v5.heap.size 27 X.cells ∧ Blk w' v6.heap.size 27 X.cells ∧ Below w.heap.size w w') W6 ⟨r, a1, a2, a3, a4, a5, a6, b⟩
  have x0 : ∀ i, (W i).cell? ⟨w.heap.size + 1, 0, none⟩ = some (.int .i64 x) := fun i => (hC i).1.cell 0
  have x1 : ∀ i, (W i).cell? ⟨w.heap.size + 1, 1, none⟩ = some (.int .i64 y) := fun i => (hC i).1.cell 1
  have R1 := Lib.hid (show ∀ i, (W i).heap[v1.heap.size]? = some (.cells A.cells 27 (0, 0)) from fun i => (hC i).2.1)
  have R2 := Lib.hid (show ∀ i, (W i).heap[v2.heap.size]? = some (.cells A.cells 27 (0, 0)) from fun i => (hC i).2.2.1)
  have R3 := Lib.hid (show ∀ i, (W i).heap[v3.heap.size]? = some (.cells C.cells 27 (0, 0)) from fun i => (hC i).2.2.2.1)
  have R4 := Lib.hid (show ∀ i, (W i).heap[v4.heap.size]? = some (.cells C.cells 27 (0, 0)) from fun i => (hC i).2.2.2.2.1)
  have R5 := Lib.hid (show ∀ i, (W i).heap[v5.heap.size]? = some (.cells X.cells 27 (0, 0)) from fun i => (hC i).2.2.2.2.2.1)
  have R6 := Lib.hid (show ∀ i, (W i).heap[v6.heap.size]? = some (.cells X.cells 27 (0, 0)) from fun i => (hC i).2.2.2.2.2.2.1)
  have C14 := Lib.hid (show ∀ i, Calls Tryd.prog 14 #[.int .i64 x, .int .i64 y] (W i) fun e w'' => e = .returned (.int .i64 P) ∧ ∃ j, w'' = W j from fun i => (P1.out (W i)).mono fun e w'' h => ⟨h.1, i, h.2.symm⟩)
  have C21 := Lib.hid (show ∀ i, Calls Tryd.prog 21 #[.int .i64 x, .int .i64 y] (W i) fun e w'' => e = .returned (.int .i64 P) ∧ ∃ j, w'' = W j from fun i => (P2.out (W i)).mono fun e w'' h => ⟨h.1, i, h.2.symm⟩)
  obtain ⟨d27, hd⟩ := under27
  have HD := Lib.hid hd
  refine wp_region_class _ I W hne hC hW (by kernel_rfl) (by kernel_rfl) ⟨r.drewN 1, a1.drewN 1, a2.drewN 1, a3.drewN 1, a4.drewN 1, a5.drewN 1, a6.drewN 1, below_drewN b 1⟩ ?_
  have HC := Lib.hid hC
  clear hC hW hd r a1 a2 a3 a4 a5 a6 b q P1 P2
  try simp only [Act.put]
  go_big_quiet_step (fail)
  go_big_quiet_step (fail)
  go_big_quiet_want
  refine quiet_row 27 (.tmp 8) rfl v1.heap.size rfl 27 A.cells (0, 0) _ R1.out HD.out rfl (sz27 A) ?_
  go_big_quiet_on
  try simp only [Act.put, List.setIfInBounds_toArray, List.set_cons_zero, List.set_cons_succ]
  go_big_quiet_want
  refine quiet_row 27 (.tmp 10) rfl v2.heap.size rfl 27 A.cells (0, 0) _ R2.out HD.out rfl (sz27 A) ?_
  go_big_quiet_on
  try simp only [Act.put, List.setIfInBounds_toArray, List.set_cons_zero, List.set_cons_succ]
  go_big_quiet_want
  refine quiet_bin_agg .eql 27 27 (.tmp 55) (.tmp 56) A.cells A.cells (.bool true) rfl rfl rfl guard27 (eql_tm A) ?_
  go_big_quiet_on
  try simp only [Act.put, List.setIfInBounds_toArray, List.set_cons_zero, List.set_cons_succ]
  go_big_quiet_step (fail)
  go_big_quiet_step (fail)
  go_big_quiet_step (fail)
  go_big_quiet_step (fail)
  go_big_quiet_step (fail)
  go_big_quiet_step (fail)
  go_big_quiet_step (fail)
  go_big_quiet_want
  refine quiet_row 27 (.tmp 12) rfl v3.heap.size rfl 27 C.cells (0, 0) _ R3.out HD.out rfl (sz27 C) ?_
  go_big_quiet_on
  try simp only [Act.put, List.setIfInBounds_toArray, List.set_cons_zero, List.set_cons_succ]
  go_big_quiet_want
  refine quiet_row 27 (.tmp 14) rfl v4.heap.size rfl 27 C.cells (0, 0) _ R4.out HD.out rfl (sz27 C) ?_
  go_big_quiet_on
  try simp only [Act.put, List.setIfInBounds_toArray, List.set_cons_zero, List.set_cons_succ]
  go_big_quiet_want
  refine quiet_bin_agg .eql 27 27 (.tmp 65) (.tmp 66) C.cells C.cells (.bool true) rfl rfl rfl guard27 (eql_tm C) ?_
  go_big_quiet_on
  try simp only [Act.put, List.setIfInBounds_toArray, List.set_cons_zero, List.set_cons_succ]
  go_big_quiet_step (fail)
  go_big_quiet_step (fail)
  go_big_quiet_step (fail)
  go_big_quiet_step (fail)
  go_big_quiet_step (fail)
  go_big_quiet_step (fail)
  go_big_quiet_step (fail)
  go_big_quiet_want
  refine quiet_row 27 (.tmp 16) rfl v5.heap.size rfl 27 X.cells (0, 0) _ R5.out HD.out rfl (sz27 X) ?_
  go_big_quiet_on
  try simp only [Act.put, List.setIfInBounds_toArray, List.set_cons_zero, List.set_cons_succ]
  go_big_quiet_want
  refine quiet_row 27 (.tmp 18) rfl v6.heap.size rfl 27 X.cells (0, 0) _ R6.out HD.out rfl (sz27 X) ?_
  go_big_quiet_on
  try simp only [Act.put, List.setIfInBounds_toArray, List.set_cons_zero, List.set_cons_succ]
  go_big_quiet_want
  refine quiet_bin_agg .eql 27 27 (.tmp 75) (.tmp 76) X.cells X.cells (.bool true) rfl rfl rfl guard27 (eql_tm X) ?_
  go_big_quiet_on
  try simp only [Act.put, List.setIfInBounds_toArray, List.set_cons_zero, List.set_cons_succ]
  go_big_quiet_step (fail)
  go_big_quiet_step (fail)
  go_big_quiet_step (fail)
  go_big_quiet_step (fail)
  go_big_quiet_step (fail)
  go_big_quiet_step (fail)
  go_big_quiet_step (fail)
  go_big_quiet_step (fail)
  go_big_quiet_step (fail)
  go_big_quiet_step (fail)
  go_big_quiet_step (fail)
  go_big_quiet_want
  refine quiet_call (f := 14) (args := #[.int .i64 x, .int .i64 y]) (v := .int .i64 P) (fun _ => by first | rfl | (go_simp; done)) C14.out ?_
  go_big_quiet_on
  try simp only [Act.put, List.setIfInBounds_toArray, List.set_cons_zero, List.set_cons_succ]
  go_big_quiet_step (fail)
  go_big_quiet_step (fail)
  go_big_quiet_step (fail)
  go_big_quiet_step (fail)
  go_big_quiet_want
  refine quiet_call (f := 21) (args := #[.int .i64 x, .int .i64 y]) (v := .int .i64 P) (fun _ => by first | rfl | (go_simp; done)) C21.out ?_
  go_big_quiet_on
  try simp only [Act.put, List.setIfInBounds_toArray, List.set_cons_zero, List.set_cons_succ]
  go_big_quiet_step (fail)
  go_big_quiet_step (fail)
  go_big_quiet_step (fail)
  refine wpQuiet_nil ?_
  intro i
  go_wp2
  go_ret
  exact ⟨rfl, (HC.out i).2.2.2.2.2.2.2⟩
theorem com_walk (s : Tm) (now : Int) (zs : List Int) (w : World) (hG : Gl w) (hz : zs.length = 2) : LawIs 5 #[.agg s.cells, .int .i64 now, .agg (ints .i64 zs)] w := by
  match zs, hz with
  | [x, y], _ => exact com_at s _ _ _ now _ _ _ x y _ w hG (unl_is s now) (fun W => runlock s now W) (fun W => over_c 17 4 (.inl ⟨rfl, rfl⟩) s W) (fun W => rzeroize s W) (fun W => over_c 19 5 (.inr ⟨rfl, rfl⟩) s W) (fun W => rdecommission s W) (permits_c x y) (rpermits x y)
end Go.Proofs.YtjainkepgmdkiaaDoor.Vf
