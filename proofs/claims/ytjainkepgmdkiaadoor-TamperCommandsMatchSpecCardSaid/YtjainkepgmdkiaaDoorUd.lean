/-
  An alarm of the mesh is fatal: the law's walk. (Its early ends were written by a program.)
-/
import Derived.Test.YtjainkepgmdkiaaDoorUa
import Derived.Test.YtjainkepgmdkiaaDoorUc
import Derived.Test.YtjainkepgmdkiaaDoorUo
import Derived.Test.YtjainkepgmdkiaaDoorQ
import Derived.Deep.RegionHeld3
import Derived.Deep.CutRange
namespace Go.Proofs.YtjainkepgmdkiaaDoor.Ud
open Go.RowKit Go.Proofs.YtjainkepgmdkiaaDoor.B Go.Proofs.YtjainkepgmdkiaaDoor.E Go.Proofs.YtjainkepgmdkiaaDoor.Ta Go.Proofs.YtjainkepgmdkiaaDoor.Tb Go.Proofs.YtjainkepgmdkiaaDoor.Tc Go.Proofs.YtjainkepgmdkiaaDoor.Tz Go.Proofs.YtjainkepgmdkiaaDoor.Te Go.Proofs.YtjainkepgmdkiaaDoor.Tf Go.Proofs.YtjainkepgmdkiaaDoor.Th Go.Proofs.YtjainkepgmdkiaaDoor.Ti Go.Proofs.YtjainkepgmdkiaaDoor.Tt Go.Proofs.YtjainkepgmdkiaaDoor.To Go.Proofs.YtjainkepgmdkiaaDoor.Ts Go.Proofs.YtjainkepgmdkiaaDoor.Tv Go.Proofs.YtjainkepgmdkiaaDoor.Ua Go.Proofs.YtjainkepgmdkiaaDoor.Uc Go.Proofs.YtjainkepgmdkiaaDoor.Uo
theorem block_of_cell {w : World} {p : Addr} {v : Value} (h : w.cell? p = some v) : p.block < w.heap.size := by
  unfold World.cell? at h
  cases hq : w.heap[p.block]? with
  | none => rw [hq] at h; cases h
  | some o => exact (Array.getElem?_eq_some_iff.1 hq).1
theorem add_block (p : Addr) (n : Nat) : (p.add n).block = p.block := by unfold Addr.add; split <;> rfl
theorem made {w w1 w2 : World} {cs : Array Value} (h1 : w1.heap = (w.alloc (.cells cs 27)).heap) (hb : Below w1.heap.size w1 w2) : Blk w2 w.heap.size 27 cs := by
  have h2 : Blk w1 w.heap.size 27 cs := by
    have h3 := Blk.new w 27 cs
    unfold Blk at h3 ⊢
    rw [h1]
    exact h3
  exact h2.below hb h2.lt
theorem nine_next {w w' : World} {g : Nat} {A : Tm} {p : Addr} {s l n : Int} (hb : Below w.heap.size w w')
    (h : w.cell? ⟨g, 0, none⟩ = some (.int .i64 A.m) ∧ w.cell? ⟨g, 1, none⟩ = some (.int .i64 A.t) ∧ w.cell? ⟨g, 2, none⟩ = some (.int .i64 A.a) ∧ w.cell? ⟨g, 3, none⟩ = some (.int .i64 A.b) ∧ w.cell? ⟨g, 4, none⟩ = some (.int .i64 A.c) ∧ w.cell? ⟨g, 5, none⟩ = some (.int .i64 A.d) ∧ w.cell? p = some (.int .i64 s) ∧ w.cell? ⟨p.block, p.off + 1, none⟩ = some (.int .i64 l) ∧ w.cell? ⟨p.block, p.off + 2, none⟩ = some (.int .i64 n)) :
    w'.cell? ⟨g, 0, none⟩ = some (.int .i64 A.m) ∧ w'.cell? ⟨g, 1, none⟩ = some (.int .i64 A.t) ∧ w'.cell? ⟨g, 2, none⟩ = some (.int .i64 A.a) ∧ w'.cell? ⟨g, 3, none⟩ = some (.int .i64 A.b) ∧ w'.cell? ⟨g, 4, none⟩ = some (.int .i64 A.c) ∧ w'.cell? ⟨g, 5, none⟩ = some (.int .i64 A.d) ∧ w'.cell? p = some (.int .i64 s) ∧ w'.cell? ⟨p.block, p.off + 1, none⟩ = some (.int .i64 l) ∧ w'.cell? ⟨p.block, p.off + 2, none⟩ = some (.int .i64 n) := by
  have k : ∀ {a : Addr} {v : Value}, w.cell? a = some v → w'.cell? a = some v := fun h => (hb.cell (block_of_cell h)).trans h
  obtain ⟨h0, h1, h2, h3, h4, h5, h6, h7, h8⟩ := h
  exact ⟨k h0, k h1, k h2, k h3, k h4, k h5, k h6, k h7, k h8⟩
theorem seven_next {w w' : World} {g : Nat} {A : Tm} {p : Addr} {n : Int} (hb : Below w.heap.size w w')
    (h : w.cell? ⟨g, 0, none⟩ = some (.int .i64 A.m) ∧ w.cell? ⟨g, 1, none⟩ = some (.int .i64 A.t) ∧ w.cell? ⟨g, 2, none⟩ = some (.int .i64 A.a) ∧ w.cell? ⟨g, 3, none⟩ = some (.int .i64 A.b) ∧ w.cell? ⟨g, 4, none⟩ = some (.int .i64 A.c) ∧ w.cell? ⟨g, 5, none⟩ = some (.int .i64 A.d) ∧ w.cell? ⟨p.block, p.off + 2, none⟩ = some (.int .i64 n)) :
    w'.cell? ⟨g, 0, none⟩ = some (.int .i64 A.m) ∧ w'.cell? ⟨g, 1, none⟩ = some (.int .i64 A.t) ∧ w'.cell? ⟨g, 2, none⟩ = some (.int .i64 A.a) ∧ w'.cell? ⟨g, 3, none⟩ = some (.int .i64 A.b) ∧ w'.cell? ⟨g, 4, none⟩ = some (.int .i64 A.c) ∧ w'.cell? ⟨g, 5, none⟩ = some (.int .i64 A.d) ∧ w'.cell? ⟨p.block, p.off + 2, none⟩ = some (.int .i64 n) := by
  have k : ∀ {a : Addr} {v : Value}, w.cell? a = some v → w'.cell? a = some v := fun h => (hb.cell (block_of_cell h)).trans h
  obtain ⟨h0, h1, h2, h3, h4, h5, h8⟩ := h
  exact ⟨k h0, k h1, k h2, k h3, k h4, k h5, k h8⟩
abbrev obj (B : Tm) : Obj := .cells #[.int .i64 B.m, .int .i64 B.t, .int .i64 B.a, .int .i64 B.b, .int .i64 B.c, .int .i64 B.d] 27
abbrev obj0 : Obj := .cells #[.int .i64 0, .int .i64 0, .int .i64 0, .int .i64 0, .int .i64 0, .int .i64 0] 27
abbrev six0 (w : World) (H : Nat) (B : Tm) : World := (((((w.setCell ⟨H, 0, none⟩ (.int .i64 B.m)).setCell ⟨H, 1, none⟩ (.int .i64 B.t)).setCell ⟨H, 2, none⟩ (.int .i64 B.a)).setCell ⟨H, 3, none⟩ (.int .i64 B.b)).setCell ⟨H, 4, none⟩ (.int .i64 B.c)).setCell ⟨H, 5, none⟩ (.int .i64 B.d)
section
variable {w wr wq : World} {g gB : Nat} {A B C : Tm} {h : Int}
theorem late_core (G : Gl wr) (b : Below w.heap.size w wr) (hq : Below wr.drew.heap.size wr.drew wq) (o : Obj) : (∀ {k t cs}, Blk wr k t cs → Blk (wq.alloc o) k t cs) ∧ Gl (wq.alloc o) ∧ Below w.heap.size w (wq.alloc o) := by
  have b1 : Below w.heap.size w wr.drew := b.drew
  have b2 := below_next b1 hq
  have G1 : Gl wr.drew := G
  refine ⟨fun {k t cs} hk => ?_, (G1.next hq).alloc _, b2.alloc b2.size _⟩
  have hk1 : Blk wr.drew k t cs := hk
  exact (hk1.below hq hk1.lt).alloc _
theorem late_end (q : Blk wr g 27 A.cells) (G : Gl wr) (b : Below w.heap.size w wr) (hq : Below wr.drew.heap.size wr.drew wq) :
    ∃ gB : Nat, Value.pointer (some ⟨wq.heap.size, 0, none⟩) = .pointer (some ⟨gB, 0, none⟩) ∧ Value.int .i64 h = .int .i64 h ∧ Blk (wq.alloc (obj B)) gB 27 B.cells ∧ Blk (wq.alloc (obj B)) g 27 A.cells ∧ Gl (wq.alloc (obj B)) ∧ Below w.heap.size w (wq.alloc (obj B)) := by
  obtain ⟨f1, f2, f3⟩ := late_core G b hq (obj B)
  exact ⟨_, rfl, rfl, Blk.new wq 27 B.cells, f1 q, f2, f3⟩
theorem late_two (qB : Blk wr gB 27 B.cells) (q : Blk wr g 27 A.cells) (G : Gl wr) (b : Below w.heap.size w wr) (hq : Below wr.drew.heap.size wr.drew wq) :
    Value.int .i64 h = .int .i64 h ∧ Blk (wq.alloc (obj C)) gB 27 B.cells ∧ Blk (wq.alloc (obj C)) g 27 A.cells ∧ Gl (wq.alloc (obj C)) ∧ Below w.heap.size w (wq.alloc (obj C)) := by
  obtain ⟨f1, f2, f3⟩ := late_core G b hq (obj C)
  exact ⟨rfl, f1 qB, f1 q, f2, f3⟩
theorem six_put (hz : Blk wq g 27 #[.int .i64 0, .int .i64 0, .int .i64 0, .int .i64 0, .int .i64 0, .int .i64 0]) : Blk (six0 wq g B) g 27 B.cells :=
  (((((hz.put 0 (.int .i64 B.m)).put 1 (.int .i64 B.t)).put 2 (.int .i64 B.a)).put 3 (.int .i64 B.b)).put 4 (.int .i64 B.c)).put 5 (.int .i64 B.d)
theorem six_on (wq : World) (g : Nat) (B : Tm) : On wq (six0 wq g B) g :=
  ((((((On.refl wq g).setCell 0 (.int .i64 B.m)).setCell 1 (.int .i64 B.t)).setCell 2 (.int .i64 B.a)).setCell 3 (.int .i64 B.b)).setCell 4 (.int .i64 B.c)).setCell 5 (.int .i64 B.d)
theorem early_core (G : Gl wr) (b : Below w.heap.size w wr) (hq : Below (wr.alloc obj0).drew.heap.size (wr.alloc obj0).drew wq) (B : Tm) : (∀ {k t cs}, Blk wr k t cs → Blk (six0 wq wr.heap.size B) k t cs) ∧ Gl (six0 wq wr.heap.size B) ∧ Below w.heap.size w (six0 wq wr.heap.size B) := by
  have b1 : Below w.heap.size w (wr.alloc obj0).drew := (b.alloc b.size obj0).drew
  have b2 := below_next b1 hq
  have G1 : Gl (wr.alloc obj0).drew := G.alloc obj0
  have ho := six_on wq wr.heap.size B
  refine ⟨fun {k t cs} hk => ?_, Tz.Gl.on (G1.next hq) ho ?_, ho.below b2 b.size b2.size⟩
  · have hk1 : Blk (wr.alloc obj0).drew k t cs := hk.alloc obj0
    exact Tz.Blk.on (hk1.below hq hk1.lt) ho (by have := hk.lt; omega)
  · have := G.lt; omega
theorem early_end (q : Blk wr g 27 A.cells) (G : Gl wr) (b : Below w.heap.size w wr) (hq : Below (wr.alloc obj0).drew.heap.size (wr.alloc obj0).drew wq) (hz : Blk wq wr.heap.size 27 #[.int .i64 0, .int .i64 0, .int .i64 0, .int .i64 0, .int .i64 0, .int .i64 0]) :
    ∃ gB : Nat, Value.pointer (some ⟨wr.heap.size, 0, none⟩) = .pointer (some ⟨gB, 0, none⟩) ∧ Value.int .i64 h = .int .i64 h ∧ Blk (six0 wq wr.heap.size B) gB 27 B.cells ∧ Blk (six0 wq wr.heap.size B) g 27 A.cells ∧ Gl (six0 wq wr.heap.size B) ∧ Below w.heap.size w (six0 wq wr.heap.size B) := by
  obtain ⟨f1, f2, f3⟩ := early_core G b hq B
  exact ⟨_, rfl, rfl, six_put hz, f1 q, f2, f3⟩
theorem early_two (qB : Blk wr gB 27 B.cells) (q : Blk wr g 27 A.cells) (G : Gl wr) (b : Below w.heap.size w wr) (hq : Below (wr.alloc obj0).drew.heap.size (wr.alloc obj0).drew wq) (_hz : Blk wq wr.heap.size 27 #[.int .i64 0, .int .i64 0, .int .i64 0, .int .i64 0, .int .i64 0, .int .i64 0]) :
    Value.int .i64 h = .int .i64 h ∧ Blk (six0 wq wr.heap.size C) gB 27 B.cells ∧ Blk (six0 wq wr.heap.size C) g 27 A.cells ∧ Gl (six0 wq wr.heap.size C) ∧ Below w.heap.size w (six0 wq wr.heap.size C) := by
  obtain ⟨f1, f2, f3⟩ := early_core G b hq C
  exact ⟨rfl, f1 qB, f1 q, f2, f3⟩
end
theorem zero_stays {A : Tm} (hA : A.m = 4) (sn lv now : Int) (h : (stepR A sn lv now).2 = 0) : (stepR A sn lv now).1 = A := by
  have h1 := (step_good h).2.2.2.2
  rw [h1]
  have n4 : ¬ A.m < 4 := by omega
  unfold stp pst cst est
  rw [if_neg n4, if_neg n4, if_neg n4]
theorem zero_locked {A : Tm} (hA : A.m = 4) (now : Int) : (unlR A now).2 ≠ 0 := fun h => by
  have := (unl_calm h).1
  omega
theorem mesh_zero {s : Tm} {lv : Int} (hv : Vld s) (h4 : s.m ≠ 5) (hl : 1 ≤ lv) : (stepR s 1 lv s.t).2 = 0 ∧ (stepR s 1 lv s.t).1.m = 4 := by
  have e : stepR s 1 lv s.t = (stp s 1 lv s.t, 0) := by
    unfold stepR
    rw [if_pos ⟨hv, hv.2.1.1, hv.2.1.2⟩, if_neg (by omega), if_pos (by omega)]
  rw [e]
  refine ⟨rfl, ?_⟩
  show (stp s 1 lv s.t).m = 4
  have hm := hv.1
  unfold stp
  by_cases n4 : s.m < 4
  · have hp := pst_mode s s.t
    generalize pst s s.t = p at hp ⊢
    have hc := (cst_mode p 1 lv).1
    generalize cst p 1 lv = q at hc ⊢
    have hq : q.m < 4 := by omega
    unfold est escalated
    have ha : alarm 1 lv = true := by unfold alarm; rw [if_pos rfl]; exact decide_eq_true hl
    rw [if_pos hq, if_pos ha]
    show more q.m (goal q 1) = 4
    have hg : goal q 1 = 4 := by unfold goal; rw [if_pos (Or.inl rfl)]
    rw [hg]
    unfold more
    rw [if_pos hq]
  · unfold pst cst est
    rw [if_neg n4, if_neg n4, if_neg n4]
    omega
set_option maxHeartbeats 4000000 in
set_option maxRecDepth 100000 in
theorem mesh_bad (s : Tm) (lv : Int) (a : Option Addr) (len cap : Nat) (w : World) (hG : Gl w) (hv : ValidIs s false) : LawIs 8 #[.agg s.cells, .int .i64 lv, .slice a len cap] w := by
  have q1 := Blk.new w 27 s.cells
  have b1 : Below w.heap.size w (w.alloc (.cells s.cells 27)) := (Below.refl _ _).alloc (Nat.le_refl _) _
  have G1 := hG.alloc (.cells s.cells 27)
  have HV := Lib.hid hv
  clear hG hv
  change Calls Tryd.prog 8 #[.agg #[.int .i64 s.m, .int .i64 s.t, .int .i64 s.a, .int .i64 s.b, .int .i64 s.c, .int .i64 s.d], .int .i64 lv, .slice a len cap] w _
  go_enter Tryd.func8, Tryd.ntmps8
  go_wp2_with fail
  change Calls _ _ _ (w.alloc (.cells s.cells 27)) _
  generalize w.alloc (.cells s.cells 27) = W1 at q1 b1 G1 ⊢
  refine (sanity_walk W1 G1).mono ?_
  rintro e w2 ⟨rfl, hb2⟩
  have q2 := q1.below hb2 q1.lt
  have G2 := G1.next hb2
  have b2 := below_next b1 hb2
  clear q1 b1 G1 hb2
  obtain ⟨c0, c1, c2, c3, c4, c5⟩ := six q2
  go_wp2_with fail
  refine (HV.out w2).mono ?_
  rintro e w3 ⟨rfl, hb3⟩
  have b3 := below_next b2 hb3
  have q3 := q2.below hb3 q2.lt
  have G3 := G2.next hb3
  clear c0 c1 c2 c3 c4 c5 q2 b2 G2 hb3
  obtain ⟨c0, c1, c2, c3, c4, c5⟩ := six q3
  go_wp2
  go_ret
  exact ⟨rfl, b3⟩
set_option maxHeartbeats 4000000 in
set_option maxRecDepth 100000 in
theorem mesh_five (s : Tm) (lv : Int) (a : Option Addr) (len cap : Nat) (w : World) (hG : Gl w) (hv : ValidIs s true) (h5 : (s.m == 5) = true) : LawIs 8 #[.agg s.cells, .int .i64 lv, .slice a len cap] w := by
  have q1 := Blk.new w 27 s.cells
  have b1 : Below w.heap.size w (w.alloc (.cells s.cells 27)) := (Below.refl _ _).alloc (Nat.le_refl _) _
  have G1 := hG.alloc (.cells s.cells 27)
  have HV := Lib.hid hv
  clear hG hv
  change Calls Tryd.prog 8 #[.agg #[.int .i64 s.m, .int .i64 s.t, .int .i64 s.a, .int .i64 s.b, .int .i64 s.c, .int .i64 s.d], .int .i64 lv, .slice a len cap] w _
  go_enter Tryd.func8, Tryd.ntmps8
  go_wp2_with fail
  change Calls _ _ _ (w.alloc (.cells s.cells 27)) _
  generalize w.alloc (.cells s.cells 27) = W1 at q1 b1 G1 ⊢
  refine (sanity_walk W1 G1).mono ?_
  rintro e w2 ⟨rfl, hb2⟩
  have q2 := q1.below hb2 q1.lt
  have G2 := G1.next hb2
  have b2 := below_next b1 hb2
  clear q1 b1 G1 hb2
  obtain ⟨c0, c1, c2, c3, c4, c5⟩ := six q2
  go_wp2_with fail
  refine (HV.out w2).mono ?_
  rintro e w3 ⟨rfl, hb3⟩
  have b3 := below_next b2 hb3
  have q3 := q2.below hb3 q2.lt
  have G3 := G2.next hb3
  clear c0 c1 c2 c3 c4 c5 q2 b2 G2 hb3
  obtain ⟨c0, c1, c2, c3, c4, c5⟩ := six q3
  go_wp2
  go_ret
  exact ⟨rfl, b3⟩
set_option maxHeartbeats 4000000 in
set_option maxRecDepth 100000 in
theorem mesh_low (s : Tm) (lv : Int) (a : Option Addr) (len cap : Nat) (w : World) (hG : Gl w) (hv : ValidIs s true) (h5 : (s.m == 5) = false) (hl : decide (lv < 1) = true) : LawIs 8 #[.agg s.cells, .int .i64 lv, .slice a len cap] w := by
  have q1 := Blk.new w 27 s.cells
  have b1 : Below w.heap.size w (w.alloc (.cells s.cells 27)) := (Below.refl _ _).alloc (Nat.le_refl _) _
  have G1 := hG.alloc (.cells s.cells 27)
  have HV := Lib.hid hv
  clear hG hv
  change Calls Tryd.prog 8 #[.agg #[.int .i64 s.m, .int .i64 s.t, .int .i64 s.a, .int .i64 s.b, .int .i64 s.c, .int .i64 s.d], .int .i64 lv, .slice a len cap] w _
  go_enter Tryd.func8, Tryd.ntmps8
  go_wp2_with fail
  change Calls _ _ _ (w.alloc (.cells s.cells 27)) _
  generalize w.alloc (.cells s.cells 27) = W1 at q1 b1 G1 ⊢
  refine (sanity_walk W1 G1).mono ?_
  rintro e w2 ⟨rfl, hb2⟩
  have q2 := q1.below hb2 q1.lt
  have G2 := G1.next hb2
  have b2 := below_next b1 hb2
  clear q1 b1 G1 hb2
  obtain ⟨c0, c1, c2, c3, c4, c5⟩ := six q2
  go_wp2_with fail
  refine (HV.out w2).mono ?_
  rintro e w3 ⟨rfl, hb3⟩
  have b3 := below_next b2 hb3
  have q3 := q2.below hb3 q2.lt
  have G3 := G2.next hb3
  clear c0 c1 c2 c3 c4 c5 q2 b2 G2 hb3
  obtain ⟨c0, c1, c2, c3, c4, c5⟩ := six q3
  go_wp2
  go_ret
  exact ⟨rfl, b3⟩
set_option maxHeartbeats 4000000 in
set_option maxRecDepth 100000 in
theorem mesh_long (s : Tm) (lv : Int) (a : Option Addr) (len cap : Nat) (w : World) (hG : Gl w) (hv : ValidIs s true) (h5 : (s.m == 5) = false) (hl : decide (lv < 1) = false) (hn : decide (60 < (len : Int)) = true) : LawIs 8 #[.agg s.cells, .int .i64 lv, .slice a len cap] w := by
  have q1 := Blk.new w 27 s.cells
  have b1 : Below w.heap.size w (w.alloc (.cells s.cells 27)) := (Below.refl _ _).alloc (Nat.le_refl _) _
  have G1 := hG.alloc (.cells s.cells 27)
  have HV := Lib.hid hv
  clear hG hv
  change Calls Tryd.prog 8 #[.agg #[.int .i64 s.m, .int .i64 s.t, .int .i64 s.a, .int .i64 s.b, .int .i64 s.c, .int .i64 s.d], .int .i64 lv, .slice a len cap] w _
  go_enter Tryd.func8, Tryd.ntmps8
  go_wp2_with fail
  change Calls _ _ _ (w.alloc (.cells s.cells 27)) _
  generalize w.alloc (.cells s.cells 27) = W1 at q1 b1 G1 ⊢
  refine (sanity_walk W1 G1).mono ?_
  rintro e w2 ⟨rfl, hb2⟩
  have q2 := q1.below hb2 q1.lt
  have G2 := G1.next hb2
  have b2 := below_next b1 hb2
  clear q1 b1 G1 hb2
  obtain ⟨c0, c1, c2, c3, c4, c5⟩ := six q2
  go_wp2_with fail
  refine (HV.out w2).mono ?_
  rintro e w3 ⟨rfl, hb3⟩
  have b3 := below_next b2 hb3
  have q3 := q2.below hb3 q2.lt
  have G3 := G2.next hb3
  clear c0 c1 c2 c3 c4 c5 q2 b2 G2 hb3
  obtain ⟨c0, c1, c2, c3, c4, c5⟩ := six q3
  go_wp2
  go_ret
  exact ⟨rfl, b3⟩
set_option maxHeartbeats 4000000 in
set_option maxRecDepth 100000 in
theorem mesh_main (s : Tm) (lv : Int) (a : Option Addr) (len cap : Nat) (w : World) (hG : Gl w) (hv : ValidIs s true) (A : Tm) (hA : A.m = 4) (hs : StepIs s 1 lv s.t A 0) (hR : Rds w a len cap) (h5 : (s.m == 5) = false) (hl : decide (lv < 1) = false) (hn : decide (60 < (len : Int)) = false) : LawIs 8 #[.agg s.cells, .int .i64 lv, .slice a len cap] w := by
  have q1 := Blk.new w 27 s.cells
  have b1 : Below w.heap.size w (w.alloc (.cells s.cells 27)) := (Below.refl _ _).alloc (Nat.le_refl _) _
  have G1 := hG.alloc (.cells s.cells 27)
  have HV := Lib.hid hv
  have HS := Lib.hid hs
  have HR := Lib.hid hR
  have HA := Lib.hid hA
  clear hs hR hA
  clear hG hv
  change Calls Tryd.prog 8 #[.agg #[.int .i64 s.m, .int .i64 s.t, .int .i64 s.a, .int .i64 s.b, .int .i64 s.c, .int .i64 s.d], .int .i64 lv, .slice a len cap] w _
  go_enter Tryd.func8, Tryd.ntmps8
  go_wp2_with fail
  change Calls _ _ _ (w.alloc (.cells s.cells 27)) _
  generalize w.alloc (.cells s.cells 27) = W1 at q1 b1 G1 ⊢
  refine (sanity_walk W1 G1).mono ?_
  rintro e w2 ⟨rfl, hb2⟩
  have q2 := q1.below hb2 q1.lt
  have G2 := G1.next hb2
  have b2 := below_next b1 hb2
  clear q1 b1 G1 hb2
  obtain ⟨c0, c1, c2, c3, c4, c5⟩ := six q2
  go_wp2_with fail
  refine (HV.out w2).mono ?_
  rintro e w3 ⟨rfl, hb3⟩
  have b3 := below_next b2 hb3
  have q3 := q2.below hb3 q2.lt
  have G3 := G2.next hb3
  clear c0 c1 c2 c3 c4 c5 q2 b2 G2 hb3
  obtain ⟨c0, c1, c2, c3, c4, c5⟩ := six q3
  go_wp2_with fail
  refine (HS.out w3 G3).mono ?_
  rintro e w4 ⟨rfl, hb4⟩
  have G4 := G3.next hb4
  have b4 := below_next b3 hb4
  clear c0 c1 c2 c3 c4 c5 q3 G3 b3 hb4 h5 hl HS HV
  have q5 : Blk (w4.alloc (.cells #[.int .i64 A.m, .int .i64 A.t, .int .i64 A.a, .int .i64 A.b, .int .i64 A.c, .int .i64 A.d] 27)) w4.heap.size 27 A.cells := Blk.new w4 27 A.cells
  have G5 := G4.alloc (.cells #[.int .i64 A.m, .int .i64 A.t, .int .i64 A.a, .int .i64 A.b, .int .i64 A.c, .int .i64 A.d] 27)
  have b5 := b4.alloc b4.size (.cells #[.int .i64 A.m, .int .i64 A.t, .int .i64 A.a, .int .i64 A.b, .int .i64 A.c, .int .i64 A.d] 27)
  have d0 : (A.m != 4) = false := by rw [HA.out]; rfl
  have hlen : len ≤ 60 := by have := of_decide_eq_false hn; omega
  have z0 : (w4.alloc (.cells #[.int .i64 A.m, .int .i64 A.t, .int .i64 A.a, .int .i64 A.b, .int .i64 A.c, .int .i64 A.d] 27)).cell? ⟨w4.heap.size, 0, none⟩ = some (.int .i64 A.m) := q5.cell 0
  have hgw : w.heap.size ≤ w4.heap.size := b4.size
  clear hn
  go_wp2_with fail
  clear z0 d0
  generalize w4.alloc (.cells #[.int .i64 A.m, .int .i64 A.t, .int .i64 A.a, .int .i64 A.b, .int .i64 A.c, .int .i64 A.d] 27) = W5 at q5 G5 b5 ⊢
  generalize w4.heap.size = g at q5 hgw ⊢
  clear G4 b4
  go_loopw [10] (fun v10 wr => ∃ j : Nat, j ≤ len ∧ v10 = .int .i64 (j : Int) ∧ Blk wr g 27 A.cells ∧ Gl wr ∧ Below w.heap.size w wr) (fun v10 _ => len - (intOf v10).toNat)
  case atStart => exact ⟨0, by omega, rfl, q5, G5, b5⟩
  case round =>
    clear q5 G5 b5
    obtain ⟨j, hj, rfl, q, G, b⟩ := hrel
    by_cases hlt : j < len
    · rcases HR.out with ⟨rfl, rfl, rfl⟩ | ⟨x, rfl, hl, hm, hcell⟩
      · omega
      · obtain ⟨s0, l0, n0, e0, e1, e2⟩ := hcell j hlt
        have hx : x.block < w.heap.size := by
          have := block_of_cell e0
          rwa [add_block, add_block] at this
        replace e0 := (b.cell (by rw [add_block, add_block]; exact hx)).trans e0
        replace e1 := (b.cell (by rw [add_block, add_block]; exact hx)).trans e1
        replace e2 := (b.cell (by rw [add_block, add_block]; exact hx)).trans e2
        replace e0 : wr.cell? (x.add (j * 3)) = some (.int .i64 s0) := e0
        replace e1 : wr.cell? ⟨(x.add (j * 3)).block, (x.add (j * 3)).off + 1, none⟩ = some (.int .i64 l0) := e1
        replace e2 : wr.cell? ⟨(x.add (j * 3)).block, (x.add (j * 3)).off + 2, none⟩ = some (.int .i64 n0) := e2
        obtain ⟨c0, c1, c2, c3, c4, c5⟩ := six q
        have hcell2 := hcell
        clear hcell
        go_wp2_with fail
        have H1 := step_is A s0 l0 n0
        have Z1 := zero_stays HA.out s0 l0 n0
        generalize (stepR A s0 l0 n0).1 = B at H1 Z1
        generalize (stepR A s0 l0 n0).2 = f at H1 Z1
        replace H1 := Lib.hid H1
        replace Z1 := Lib.hid Z1
        have ng := World.new_ne wr _ c0
        have nx := World.new_ne wr _ e0
        have NK := fun (w1 w2 : World) => nine_next (w := w1) (w' := w2) (g := g) (p := x.add (j * 3)) (A := A) (s := s0) (l := l0) (n := n0)
        go_cut [11, 12] from 50 to 91 (fun v11 v12 wx => ∃ gB : Nat, v11 = .pointer (some ⟨gB, 0, none⟩) ∧ v12 = .int .i64 f ∧ Blk wx gB 27 B.cells ∧ Blk wx g 27 A.cells ∧ Gl wx ∧ Below w.heap.size w wx)
        case first =>
          go_region_held3 (fun w' => w'.cell? ⟨g, 0, none⟩ = some (.int .i64 A.m) ∧ w'.cell? ⟨g, 1, none⟩ = some (.int .i64 A.t) ∧ w'.cell? ⟨g, 2, none⟩ = some (.int .i64 A.a) ∧ w'.cell? ⟨g, 3, none⟩ = some (.int .i64 A.b) ∧ w'.cell? ⟨g, 4, none⟩ = some (.int .i64 A.c) ∧ w'.cell? ⟨g, 5, none⟩ = some (.int .i64 A.d) ∧ w'.cell? (x.add (j * 3)) = some (.int .i64 s0) ∧ w'.cell? ⟨(x.add (j * 3)).block, (x.add (j * 3)).off + 1, none⟩ = some (.int .i64 l0) ∧ w'.cell? ⟨(x.add (j * 3)).block, (x.add (j * 3)).off + 2, none⟩ = some (.int .i64 n0))
            (first | go_keep | exact NK _ _ hq (by go_keep))
            (first | (go_at_call 11; refine (H1.out _ ?hgl).mono ?_; (case hgl => first | exact G | exact G.alloc _); rintro e wq ⟨rfl, hq⟩; obtain ⟨k0, k1, k2, k3, k4, k5, k6, k7, k8⟩ := NK _ _ hq (by go_keep); have m1 := World.new_ne wq _ k0; have m2 := World.new_ne wq _ k6; try (have hz := made (w := wr) (cs := #[.int .i64 0, .int .i64 0, .int .i64 0, .int .i64 0, .int .i64 0, .int .i64 0]) (by exact rfl) hq; have z0 : wq.cell? ⟨wr.heap.size, 0, none⟩ = some (.int .i64 0) := hz.cell 0; have z1 : wq.cell? ⟨wr.heap.size, 1, none⟩ = some (.int .i64 0) := hz.cell 1; have z2 : wq.cell? ⟨wr.heap.size, 2, none⟩ = some (.int .i64 0) := hz.cell 2; have z3 : wq.cell? ⟨wr.heap.size, 3, none⟩ = some (.int .i64 0) := hz.cell 3; have z4 : wq.cell? ⟨wr.heap.size, 4, none⟩ = some (.int .i64 0) := hz.cell 4; have z5 : wq.cell? ⟨wr.heap.size, 5, none⟩ = some (.int .i64 0) := hz.cell 5; have y0 := hz.frozen 0; have y1 := hz.frozen 1; have y2 := hz.frozen 2; have y3 := hz.frozen 3; have y4 := hz.frozen 4; have y5 := hz.frozen 5)))
          all_goals go_wp2_with fail
          all_goals go_meet
          case rel => exact late_end q G b hq
          case rel => exact early_end q G b hq hz
        case rest =>
          obtain ⟨gB, rfl, rfl, qB, qA, G2, b2⟩ := hcut
          clear ng nx NK c0 c1 c2 c3 c4 c5 e0 e1 H1 q G b
          obtain ⟨s1, l1, n1, e0, e1, e2⟩ := hcell2 j hlt
          replace e2 := (b2.cell (by rw [add_block, add_block]; exact hx)).trans e2
          replace e2 : wc.cell? ⟨(x.add (j * 3)).block, (x.add (j * 3)).off + 2, none⟩ = some (.int .i64 n1) := e2
          clear e0 e1
          obtain ⟨c0, c1, c2, c3, c4, c5⟩ := six qA
          have H2 := unl_is A n1
          have Z2 := zero_locked HA.out n1
          generalize (unlR A n1).1 = C at H2 Z2
          generalize (unlR A n1).2 = h at H2 Z2
          replace H2 := Lib.hid H2
          have dh : (h == 0) = false := by simp [Z2]
          clear Z2
          have ng := World.new_ne wc _ c0
          have nx := World.new_ne wc _ e2
          have NK := fun (w1 w2 : World) => seven_next (w := w1) (w' := w2) (g := g) (p := x.add (j * 3)) (A := A) (n := n1)
          go_wp2_with fail
          go_cut [13, 14] from 50 to 91 (fun v13 v14 wx => v14 = .int .i64 h ∧ Blk wx gB 27 B.cells ∧ Blk wx g 27 A.cells ∧ Gl wx ∧ Below w.heap.size w wx)
          case first =>
            go_region_held3 (fun w' => w'.cell? ⟨g, 0, none⟩ = some (.int .i64 A.m) ∧ w'.cell? ⟨g, 1, none⟩ = some (.int .i64 A.t) ∧ w'.cell? ⟨g, 2, none⟩ = some (.int .i64 A.a) ∧ w'.cell? ⟨g, 3, none⟩ = some (.int .i64 A.b) ∧ w'.cell? ⟨g, 4, none⟩ = some (.int .i64 A.c) ∧ w'.cell? ⟨g, 5, none⟩ = some (.int .i64 A.d) ∧ w'.cell? ⟨(x.add (j * 3)).block, (x.add (j * 3)).off + 2, none⟩ = some (.int .i64 n1))
              (first | go_keep | exact NK _ _ hq (by go_keep))
              (first | (go_at_call 15; refine (H2.out _ ?hgl).mono ?_; (case hgl => first | exact G2 | exact G2.alloc _); rintro e wq ⟨rfl, hq⟩; obtain ⟨k0, k1, k2, k3, k4, k5, k6⟩ := NK _ _ hq (by go_keep); have m1 := World.new_ne wq _ k0; have m2 := World.new_ne wq _ k6; try (have hz := made (w := wc) (cs := #[.int .i64 0, .int .i64 0, .int .i64 0, .int .i64 0, .int .i64 0, .int .i64 0]) (by exact rfl) hq; have z0 : wq.cell? ⟨wc.heap.size, 0, none⟩ = some (.int .i64 0) := hz.cell 0; have z1 : wq.cell? ⟨wc.heap.size, 1, none⟩ = some (.int .i64 0) := hz.cell 1; have z2 : wq.cell? ⟨wc.heap.size, 2, none⟩ = some (.int .i64 0) := hz.cell 2; have z3 : wq.cell? ⟨wc.heap.size, 3, none⟩ = some (.int .i64 0) := hz.cell 3; have z4 : wq.cell? ⟨wc.heap.size, 4, none⟩ = some (.int .i64 0) := hz.cell 4; have z5 : wq.cell? ⟨wc.heap.size, 5, none⟩ = some (.int .i64 0) := hz.cell 5; have y0 := hz.frozen 0; have y1 := hz.frozen 1; have y2 := hz.frozen 2; have y3 := hz.frozen 3; have y4 := hz.frozen 4; have y5 := hz.frozen 5)))
            all_goals go_wp2_with fail
            all_goals go_meet
            case rel => exact late_two qB qA G2 b2 hq
            case rel => exact early_two qB qA G2 b2 hq hz
          case rest =>
            obtain ⟨rfl, qB3, qA3, G3, b3⟩ := hcut
            clear ng nx NK c0 c1 c2 c3 c4 c5 e2 H2 qB qA G2 b2
            have Z := Z1.out
            have hd := u27
            by_cases hf : f = 0
            · have hBA := Z hf
              clear Z
              subst hBA hf
              generalize Tryd.prog.fieldsOf 27 = fs at hd
              have HD := Lib.hid hd
              clear hd
              have QB := Lib.hid qB3
              have QA := Lib.hid qA3
              obtain ⟨c0, c1, c2, c3, c4, c5⟩ := six qA3
              obtain ⟨g0, g1, g2, g3, g4, g5⟩ := six qB3
              go_wp2_with (first
                | ((with_reducible refine gate_dst (N := 89) rfl ?_); refine gate_guard (by rfl) ?_; refine wpList_bin_agg rfl .neq 27 27 (.tmp 87) (.tmp 88) B.cells B.cells (.bool false) rfl rfl rfl guard27 (neq_tm B) ?_))
              go_roundw
              case rel => exact ⟨j + 1, by omega, by go_num, qA3, G3, b3⟩
              case measure => simp [intOf]; omega
            · have df : (f == 0) = false := by simp [hf]
              clear Z hf hd
              go_wp2_with fail
              go_roundw
              case rel => exact ⟨j + 1, by omega, by go_num, qA3, G3, b3⟩
              case measure => simp [intOf]; omega
    · have hjl : j = len := by omega
      clear hlt
      subst hjl
      go_wp2
      go_ret
      exact ⟨rfl, b⟩
theorem mesh_walk (s : Tm) (lv : Int) (a : Option Addr) (len cap : Nat) (w : World) (hG : Gl w) (hR : Rds w a len cap) : LawIs 8 #[.agg s.cells, .int .i64 lv, .slice a len cap] w := by
  by_cases hv : Vld s
  · by_cases h5 : s.m = 5
    · exact mesh_five s lv a len cap w hG (valid_is hv) (by simp [h5])
    · by_cases hl : lv < 1
      · exact mesh_low s lv a len cap w hG (valid_is hv) (by simp [h5]) (decide_eq_true hl)
      · by_cases hn : 60 < (len : Int)
        · exact mesh_long s lv a len cap w hG (valid_is hv) (by simp [h5]) (decide_eq_false hl) (decide_eq_true hn)
        · obtain ⟨m1, m2⟩ := mesh_zero (lv := lv) hv h5 (by omega)
          have st := step_is s 1 lv s.t
          rw [m1] at st
          exact mesh_main s lv a len cap w hG (valid_is hv) _ m2 st hR (by simp [h5]) (decide_eq_false hl) (decide_eq_false hn)
  · exact mesh_bad s lv a len cap w hG (valid_not hv)
end Go.Proofs.YtjainkepgmdkiaaDoor.Ud
