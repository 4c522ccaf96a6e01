/-
  Glitches are tolerated: the plain law and the law's walk. (Its rounds were written by a program.)
-/
import Derived.Test.YtjainkepgmdkiaaDoorUd
import Derived.Test.YtjainkepgmdkiaaDoorTd
namespace Go.Proofs.YtjainkepgmdkiaaDoor.Ue
open Go.RowKit Go.Proofs.YtjainkepgmdkiaaDoor.B Go.Proofs.YtjainkepgmdkiaaDoor.E Go.Proofs.YtjainkepgmdkiaaDoor.Ta Go.Proofs.YtjainkepgmdkiaaDoor.Tb Go.Proofs.YtjainkepgmdkiaaDoor.Tc Go.Proofs.YtjainkepgmdkiaaDoor.Td Go.Proofs.YtjainkepgmdkiaaDoor.Tz Go.Proofs.YtjainkepgmdkiaaDoor.Te Go.Proofs.YtjainkepgmdkiaaDoor.Tf Go.Proofs.YtjainkepgmdkiaaDoor.Tg Go.Proofs.YtjainkepgmdkiaaDoor.Th Go.Proofs.YtjainkepgmdkiaaDoor.Ti Go.Proofs.YtjainkepgmdkiaaDoor.Tt Go.Proofs.YtjainkepgmdkiaaDoor.To Go.Proofs.YtjainkepgmdkiaaDoor.Ts Go.Proofs.YtjainkepgmdkiaaDoor.Tv Go.Proofs.YtjainkepgmdkiaaDoor.Ua Go.Proofs.YtjainkepgmdkiaaDoor.Uc Go.Proofs.YtjainkepgmdkiaaDoor.Ud Go.Proofs.YtjainkepgmdkiaaDoor.Uo
/-- Few alarms, none of them long ago. -/
def Good (s : Tm) (N : Int) : Prop := (s.m = 1 ∨ s.m = 2) ∧ (0 ≤ s.t ∧ s.t ≤ N ∧ N < s.t + 60) ∧ (0 ≤ s.a ∧ s.a ≤ 3) ∧ (0 ≤ s.b ∧ s.b ≤ 3) ∧ (0 ≤ s.c ∧ s.c ≤ 3) ∧ (0 ≤ s.d ∧ s.d ≤ 3)
theorem Good.vld {s : Tm} {N : Int} (h : Good s N) (hN : N ≤ 1099511627776) : Vld s := by
  obtain ⟨h0, h1, h2, h3, h4, h5⟩ := h
  refine ⟨by omega, by omega, by omega, by omega, by omega, by omega⟩
theorem good_pst {s : Tm} {N M : Int} (h : Good s N) (h3 : N + 180 ≤ M) : pst s M = ⟨1, s.t + 60 * ((M - s.t) / 60), 0, 0, 0, 0⟩ := by
  obtain ⟨h0, h1, h2, h3, h4, h5⟩ := h
  unfold pst
  rw [if_pos (by omega)]
  have hK : 3 ≤ (M - s.t) / 60 := by omega
  generalize (M - s.t) / 60 = K at hK ⊢
  have l0 : ∀ x : Int, 0 ≤ x → x ≤ 3 → low x K = 0 := fun x _ _ => by unfold low; rw [if_neg (by omega)]
  have la := l0 s.a h2.1 h2.2
  have lb := l0 s.b h3.1 h3.2
  have lc := l0 s.c h4.1 h4.2
  have ld := l0 s.d h5.1 h5.2
  have ht : tot (late s K) = 0 := by
    show low s.a K + low s.b K + low s.c K + low s.d K = 0
    rw [la, lb, lc, ld]
    rfl
  have hm : (if s.m = 2 ∧ tot (late s K) = 0 then 1 else s.m) = 1 := by
    rcases h0 with h0 | h0
    · rw [if_neg (by omega)]; exact h0
    · rw [if_pos ⟨h0, ht⟩]
  unfold passedK
  rw [hm, la, lb, lc, ld]
theorem good_step {s : Tm} {N M sn lv : Int} (h : Good s N) (h3 : N + 180 ≤ M) (hM : M ≤ 1099511627776) (hs : (sn = 2 ∧ lv = 10) ∨ (sn = 3 ∧ lv = -100) ∨ (sn = 4 ∧ lv = 85)) : ∃ T : Tm, stepR s sn lv M = (T, 0) ∧ T.m = 2 ∧ Good T M := by
  have hv := h.vld (by omega)
  have ht := h.2.1
  have e : stepR s sn lv M = (stp s sn lv M, 0) := by
    unfold stepR
    rw [if_pos ⟨hv, by omega, hM⟩, if_neg (by omega), if_pos (by omega)]
  refine ⟨_, e, ?_⟩
  unfold stp
  rw [good_pst h h3]
  have k1 : s.t + 60 * ((M - s.t) / 60) ≤ M := by omega
  have k2 : M < s.t + 60 * ((M - s.t) / 60) + 60 := by omega
  have k0 : 0 ≤ s.t + 60 * ((M - s.t) / 60) := by omega
  generalize s.t + 60 * ((M - s.t) / 60) = t at k0 k1 k2 ⊢
  rcases hs with ⟨rfl, rfl⟩ | ⟨rfl, rfl⟩ | ⟨rfl, rfl⟩
  · have e2 : est (cst ⟨1, t, 0, 0, 0, 0⟩ 2 10) 2 10 = ⟨2, t, 0, 3, 0, 0⟩ := by simp [est, cst, counted, bump, up, alarm, escalated, goal, tot, more]
    rw [e2]
    exact ⟨rfl, .inr rfl, ⟨k0, k1, k2⟩, by simp, by simp, by simp, by simp⟩
  · have e2 : est (cst ⟨1, t, 0, 0, 0, 0⟩ 3 (-100)) 3 (-100) = ⟨2, t, 0, 0, 1, 0⟩ := by simp [est, cst, counted, bump, up, alarm, escalated, goal, tot, more]
    rw [e2]
    exact ⟨rfl, .inr rfl, ⟨k0, k1, k2⟩, by simp, by simp, by simp, by simp⟩
  · have e2 : est (cst ⟨1, t, 0, 0, 0, 0⟩ 4 85) 4 85 = ⟨2, t, 0, 0, 0, 1⟩ := by simp [est, cst, counted, bump, up, alarm, escalated, goal, tot, more]
    rw [e2]
    exact ⟨rfl, .inr rfl, ⟨k0, k1, k2⟩, by simp, by simp, by simp, by simp⟩
theorem good_pass {s : Tm} {N : Int} (h : Good s N) (hM : N + 240 ≤ 1099511627776) : ∃ T : Tm, passR s (N + 240) = (T, 0) ∧ T.m = 1 ∧ tot T = 0 ∧ Scores T := by
  have hv := h.vld (by omega)
  refine ⟨_, pass_ok hv (by have := h.2.1; omega) hM, ?_⟩
  rw [good_pst h (by omega)]
  exact ⟨rfl, rfl, by unfold Scores; simp⟩
theorem good_new (n : Int) (h0 : 0 ≤ n) : Good ⟨1, n, 0, 0, 0, 0⟩ n := by
  refine ⟨.inl rfl, ?_, ?_, ?_, ?_, ?_⟩ <;> simp <;> omega
theorem eight_next {w w' : World} {g : Nat} {A : Tm} {p : Addr} {n : Int} (hb : Below w.heap.size w w')
    (h : w.cell? ⟨g, 0, none⟩ = some (.int .i64 A.m) ∧ w.cell? ⟨g, 1, none⟩ = some (.int .i64 A.t) ∧ w.cell? ⟨g, 2, none⟩ = some (.int .i64 A.a) ∧ w.cell? ⟨g, 3, none⟩ = some (.int .i64 A.b) ∧ w.cell? ⟨g, 4, none⟩ = some (.int .i64 A.c) ∧ w.cell? ⟨g, 5, none⟩ = some (.int .i64 A.d) ∧ w.cell? p = some (.int .u16 n)) :
    w'.cell? ⟨g, 0, none⟩ = some (.int .i64 A.m) ∧ w'.cell? ⟨g, 1, none⟩ = some (.int .i64 A.t) ∧ w'.cell? ⟨g, 2, none⟩ = some (.int .i64 A.a) ∧ w'.cell? ⟨g, 3, none⟩ = some (.int .i64 A.b) ∧ w'.cell? ⟨g, 4, none⟩ = some (.int .i64 A.c) ∧ w'.cell? ⟨g, 5, none⟩ = some (.int .i64 A.d) ∧ w'.cell? p = some (.int .u16 n) := by
  have k : ∀ {a : Addr} {v : Value}, w.cell? a = some v → w'.cell? a = some v := fun h => (hb.cell (block_of_cell h)).trans h
  obtain ⟨h0, h1, h2, h3, h4, h5, h8⟩ := h
  exact ⟨k h0, k h1, k h2, k h3, k h4, k h5, k h8⟩
theorem six_put2 {wq : World} {g : Nat} {s B : Tm} (hz : Blk wq g 27 s.cells) : Blk (six0 wq g B) g 27 B.cells :=
  (((((hz.put 0 (.int .i64 B.m)).put 1 (.int .i64 B.t)).put 2 (.int .i64 B.a)).put 3 (.int .i64 B.b)).put 4 (.int .i64 B.c)).put 5 (.int .i64 B.d)
abbrev NewIs (n : Int) : Prop := ∀ W, Calls Tryd.prog 10 #[.int .i64 n] W fun e w' => e = .returned (.tuple #[.agg #[.int .i64 1, .int .i64 n, .int .i64 0, .int .i64 0, .int .i64 0, .int .i64 0], .int .i64 0]) ∧ Below W.heap.size W w'
theorem new_is {n : Int} (h0 : 0 ≤ n) (h1 : n ≤ 1099511627776) : NewIs n := fun W => new_yes n W h0 h1
set_option maxHeartbeats 4000000 in
set_option maxRecDepth 100000 in
theorem gl_long (st : Int) (a : Option Addr) (len cap : Nat) (w : World) (hG : Gl w) (hn : decide (60 < (len : Int)) = true) : LawIs 3 #[.int .u32 st, .slice a len cap] w := by
  have hs := sanity_walk w hG
  go_enter Tryd.func3, Tryd.ntmps3
  go_wp2_with fail
  refine hs.mono ?_
  rintro e w1 ⟨rfl, hb⟩
  clear hs hG
  go_wp2
  go_ret
  exact ⟨rfl, hb⟩
set_option maxHeartbeats 16000000 in
set_option maxRecDepth 100000 in
theorem gl_main (st : Int) (a : Option Addr) (len cap : Nat) (w : World) (hG : Gl w) (hs0 : 0 ≤ st) (hs1 : st ≤ 4294967295) (hR : Row w a len cap) (hn : decide (60 < (len : Int)) = false) : LawIs 3 #[.int .u32 st, .slice a len cap] w := by
  have hw00 := hG.lt
  have hs := sanity_walk w hG
  have HR := Lib.hid hR
  have HN := Lib.hid (new_is (n := st) hs0 (by omega))
  have hw0 : IntKind.i64.wrap st = st := IntWalk.i64_in _ (by omega)
  have hlen : len ≤ 60 := by have := of_decide_eq_false hn; omega
  clear hR
  go_enter Tryd.func3, Tryd.ntmps3
  go_wp2_with fail
  refine hs.mono ?_
  rintro e w2 ⟨rfl, hb2⟩
  have G2 := hG.next hb2
  clear hs hG
  go_wp2_with fail
  refine (HN.out w2).mono ?_
  rintro e w4 ⟨rfl, hb4⟩
  have G4 := G2.next hb4
  have b4 := below_next hb2 hb4
  clear hb2 hb4 G2 HN hn
  have q5 : Blk (w4.alloc (.cells #[.int .i64 1, .int .i64 st, .int .i64 0, .int .i64 0, .int .i64 0, .int .i64 0] 27)) w4.heap.size 27 (Tm.cells ⟨1, st, 0, 0, 0, 0⟩) := Blk.new w4 27 (Tm.cells ⟨1, st, 0, 0, 0, 0⟩)
  have G5 := G4.alloc (.cells #[.int .i64 1, .int .i64 st, .int .i64 0, .int .i64 0, .int .i64 0, .int .i64 0] 27)
  have b5 := b4.alloc b4.size (.cells #[.int .i64 1, .int .i64 st, .int .i64 0, .int .i64 0, .int .i64 0, .int .i64 0] 27)
  have hgw : w.heap.size ≤ w4.heap.size := b4.size
  go_wp2_with fail
  generalize w4.alloc (.cells #[.int .i64 1, .int .i64 st, .int .i64 0, .int .i64 0, .int .i64 0, .int .i64 0] 27) = W5 at q5 G5 b5 ⊢
  generalize w4.heap.size = g at q5 hgw ⊢
  clear G4 b4
  go_loopw [6, 9] (fun v6 v9 wr => ∃ (j : Nat) (N : Int) (s : Tm), j ≤ len ∧ v6 = .int .i64 N ∧ v9 = .int .i64 (j : Int) ∧ Good s N ∧ N ≤ 4294967296 + 20000 * (j : Int) ∧ Blk wr g 27 s.cells ∧ Gl wr ∧ Below w.heap.size w wr) (fun _ v9 _ => len - (intOf v9).toNat)
  case atStart => exact ⟨0, st, ⟨1, st, 0, 0, 0, 0⟩, by omega, rfl, rfl, good_new st hs0, by simp; omega, q5, G5, b5⟩
  case round =>
    clear q5 G5 b5
    obtain ⟨j, N, s, hj, rfl, rfl, hgd, hNj, q, G, b⟩ := hrel
    have hN0 : 0 ≤ N := by have := hgd.2.1; omega
    by_cases hlt : j < len
    · rcases HR.out with ⟨rfl, rfl, rfl⟩ | ⟨x, rfl, hl, hm, hcell⟩
      · omega
      · obtain ⟨n, hn, e0⟩ := hcell j hlt
        have eW := e0
        have hxb := block_of_cell e0
        replace e0 := (b.cell hxb).trans e0
        clear hcell
        have hq0 : 0 ≤ n / 4 := by omega
        have hq1 : n / 4 ≤ 16384 := by omega
        have w1 : IntKind.i64.wrap (N + 180) = N + 180 := IntWalk.i64_in _ (by omega)
        have w2' : IntKind.i64.wrap n = n := IntWalk.i64_in _ (by omega)
        have w3 : Int.tdiv n 4 = n / 4 := by rw [Int.tdiv_eq_ediv_of_nonneg hn.1]
        have w3' : IntKind.i64.wrap (n / 4) = n / 4 := IntWalk.i64_in _ (by omega)
        have w4' : IntKind.i64.wrap (N + 180 + n / 4) = N + 180 + n / 4 := IntWalk.i64_in _ (by omega)
        have hN2 : N + 180 + n / 4 ≤ 4294967296 + 20000 * ((j + 1 : Nat) : Int) := by omega
        have hMM : N + 180 + n / 4 ≤ 1099511627776 := by omega
        have h180 : N + 180 ≤ N + 180 + n / 4 := by omega
        have ht : Int.tmod n 3 = n % 3 := by rw [Int.tmod_eq_emod_of_nonneg hn.1]
        have hc : n % 3 = 0 ∨ n % 3 = 1 ∨ n % 3 = 2 := by omega
        clear hq0 hq1
        rcases hc with hr | hr | hr
        · rw [hr] at ht
          obtain ⟨T, hT, hTm, hTg⟩ := good_step (sn := 2) (lv := 10) hgd h180 hMM (by simp)
          have H1 := step_is s 2 10 (N + 180 + n / 4)
          rw [hT] at H1
          replace H1 := Lib.hid H1
          have HTG := Lib.hid hTg
          have HN2 := Lib.hid hN2
          have dT : (T.m != 2) = false := by rw [hTm]; rfl
          clear hT hr hTg hTm hN2 hMM h180
          go_upto_region 12 with fail
          have eA := fun o => ((Below.refl wr.heap.size wr).alloc (Nat.le_refl _) o).cell (block_of_cell e0) |>.trans e0
          go_cut [10] from 33 to 78 (fun v10 wx => v10 = .int .i64 10 ∧ Blk wx g 27 s.cells ∧ Gl wx ∧ Below w.heap.size w wx)
          case first =>
            go_wp2_with fail
            go_meet
            case rel => exact ⟨rfl, q.alloc _, G.alloc _, b.alloc b.size _⟩
          case rest =>
            obtain ⟨rfl, q2, G2, b2⟩ := hcut
            have e1 := (b2.cell hxb).trans eW
            clear eA e0 q G b
            obtain ⟨c0, c1, c2, c3, c4, c5⟩ := six q2
            have ng := World.new_ne wc _ c0
            have nx := World.new_ne wc _ e1
            have NK := fun (w1 w2 : World) => eight_next (w := w1) (w' := w2) (g := g) (p := x.add j) (A := s) (n := n)
            go_wp2_with fail
            go_cut [11, 12] from 33 to 78 (fun v11 v12 wx => ∃ gB : Nat, v11 = .pointer (some ⟨gB, 0, none⟩) ∧ v12 = .int .i64 0 ∧ Blk wx gB 27 T.cells ∧ Blk wx g 27 s.cells ∧ Gl wx ∧ Below w.heap.size w wx)
            case first =>
              go_region_held3 (fun w' => w'.cell? ⟨g, 0, none⟩ = some (.int .i64 s.m) ∧ w'.cell? ⟨g, 1, none⟩ = some (.int .i64 s.t) ∧ w'.cell? ⟨g, 2, none⟩ = some (.int .i64 s.a) ∧ w'.cell? ⟨g, 3, none⟩ = some (.int .i64 s.b) ∧ w'.cell? ⟨g, 4, none⟩ = some (.int .i64 s.c) ∧ w'.cell? ⟨g, 5, none⟩ = some (.int .i64 s.d) ∧ w'.cell? (x.add j) = some (.int .u16 n))
                (first | go_keep | exact NK _ _ hq (by go_keep))
                (first | (go_at_call 11; refine (H1.out _ ?hgl).mono ?_; (case hgl => first | exact G2 | exact G2.alloc _); rintro e wq ⟨rfl, hq⟩; obtain ⟨k0, k1, k2, k3, k4, k5, k6⟩ := NK _ _ hq (by go_keep); have m1 := World.new_ne wq _ k0; have m2 := World.new_ne wq _ k6; try (have hz := made (w := wc) (cs := #[.int .i64 0, .int .i64 0, .int .i64 0, .int .i64 0, .int .i64 0, .int .i64 0]) (by exact rfl) hq; have z0 : wq.cell? ⟨wc.heap.size, 0, none⟩ = some (.int .i64 0) := hz.cell 0; have z1 : wq.cell? ⟨wc.heap.size, 1, none⟩ = some (.int .i64 0) := hz.cell 1; have z2 : wq.cell? ⟨wc.heap.size, 2, none⟩ = some (.int .i64 0) := hz.cell 2; have z3 : wq.cell? ⟨wc.heap.size, 3, none⟩ = some (.int .i64 0) := hz.cell 3; have z4 : wq.cell? ⟨wc.heap.size, 4, none⟩ = some (.int .i64 0) := hz.cell 4; have z5 : wq.cell? ⟨wc.heap.size, 5, none⟩ = some (.int .i64 0) := hz.cell 5; have y0 := hz.frozen 0; have y1 := hz.frozen 1; have y2 := hz.frozen 2; have y3 := hz.frozen 3; have y4 := hz.frozen 4; have y5 := hz.frozen 5)))
              all_goals go_wp2_with fail
              all_goals go_meet
              case rel => exact late_end q2 G2 b2 hq
              case rel => exact early_end q2 G2 b2 hq hz
            case rest =>
              obtain ⟨gB, rfl, rfl, qB, qA, G3, b3⟩ := hcut
              clear ng nx NK c0 c1 c2 c3 c4 c5 e1 H1 q2 G2 b2 hgd
              obtain ⟨g0, g1, g2, g3, g4, g5⟩ := six qB
              obtain ⟨c0, c1, c2, c3, c4, c5⟩ := six qA
              have y0 := qA.frozen 0
              have y1 := qA.frozen 1
              have y2 := qA.frozen 2
              have y3 := qA.frozen 3
              have y4 := qA.frozen 4
              have y5 := qA.frozen 5
              go_wp2_with fail
              go_roundw
              case rel => exact ⟨j + 1, N + 180 + n / 4, T, by omega, rfl, by go_num, HTG.out, HN2.out, six_put2 qA, Tz.Gl.on G3 (six_on _ _ _) (by omega), On.below (six_on _ _ _) b3 hgw b3.size⟩
              case measure => simp [intOf]; omega
        · rw [hr] at ht
          obtain ⟨T, hT, hTm, hTg⟩ := good_step (sn := 3) (lv := (-100)) hgd h180 hMM (by simp)
          have H1 := step_is s 3 (-100) (N + 180 + n / 4)
          rw [hT] at H1
          replace H1 := Lib.hid H1
          have HTG := Lib.hid hTg
          have HN2 := Lib.hid hN2
          have dT : (T.m != 2) = false := by rw [hTm]; rfl
          clear hT hr hTg hTm hN2 hMM h180
          go_upto_region 12 with fail
          have eA := fun o => ((Below.refl wr.heap.size wr).alloc (Nat.le_refl _) o).cell (block_of_cell e0) |>.trans e0
          go_cut [10] from 33 to 78 (fun v10 wx => v10 = .int .i64 (-100) ∧ Blk wx g 27 s.cells ∧ Gl wx ∧ Below w.heap.size w wx)
          case first =>
            go_wp2_with fail
            go_meet
            case rel => exact ⟨rfl, q.alloc _, G.alloc _, b.alloc b.size _⟩
          case rest =>
            obtain ⟨rfl, q2, G2, b2⟩ := hcut
            have e1 := (b2.cell hxb).trans eW
            clear eA e0 q G b
            obtain ⟨c0, c1, c2, c3, c4, c5⟩ := six q2
            have ng := World.new_ne wc _ c0
            have nx := World.new_ne wc _ e1
            have NK := fun (w1 w2 : World) => eight_next (w := w1) (w' := w2) (g := g) (p := x.add j) (A := s) (n := n)
            go_wp2_with fail
            go_cut [11, 12] from 33 to 78 (fun v11 v12 wx => ∃ gB : Nat, v11 = .pointer (some ⟨gB, 0, none⟩) ∧ v12 = .int .i64 0 ∧ Blk wx gB 27 T.cells ∧ Blk wx g 27 s.cells ∧ Gl wx ∧ Below w.heap.size w wx)
            case first =>
              go_region_held3 (fun w' => w'.cell? ⟨g, 0, none⟩ = some (.int .i64 s.m) ∧ w'.cell? ⟨g, 1, none⟩ = some (.int .i64 s.t) ∧ w'.cell? ⟨g, 2, none⟩ = some (.int .i64 s.a) ∧ w'.cell? ⟨g, 3, none⟩ = some (.int .i64 s.b) ∧ w'.cell? ⟨g, 4, none⟩ = some (.int .i64 s.c) ∧ w'.cell? ⟨g, 5, none⟩ = some (.int .i64 s.d) ∧ w'.cell? (x.add j) = some (.int .u16 n))
                (first | go_keep | exact NK _ _ hq (by go_keep))
                (first | (go_at_call 11; refine (H1.out _ ?hgl).mono ?_; (case hgl => first | exact G2 | exact G2.alloc _); rintro e wq ⟨rfl, hq⟩; obtain ⟨k0, k1, k2, k3, k4, k5, k6⟩ := NK _ _ hq (by go_keep); have m1 := World.new_ne wq _ k0; have m2 := World.new_ne wq _ k6; try (have hz := made (w := wc) (cs := #[.int .i64 0, .int .i64 0, .int .i64 0, .int .i64 0, .int .i64 0, .int .i64 0]) (by exact rfl) hq; have z0 : wq.cell? ⟨wc.heap.size, 0, none⟩ = some (.int .i64 0) := hz.cell 0; have z1 : wq.cell? ⟨wc.heap.size, 1, none⟩ = some (.int .i64 0) := hz.cell 1; have z2 : wq.cell? ⟨wc.heap.size, 2, none⟩ = some (.int .i64 0) := hz.cell 2; have z3 : wq.cell? ⟨wc.heap.size, 3, none⟩ = some (.int .i64 0) := hz.cell 3; have z4 : wq.cell? ⟨wc.heap.size, 4, none⟩ = some (.int .i64 0) := hz.cell 4; have z5 : wq.cell? ⟨wc.heap.size, 5, none⟩ = some (.int .i64 0) := hz.cell 5; have y0 := hz.frozen 0; have y1 := hz.frozen 1; have y2 := hz.frozen 2; have y3 := hz.frozen 3; have y4 := hz.frozen 4; have y5 := hz.frozen 5)))
              all_goals go_wp2_with fail
              all_goals go_meet
              case rel => exact late_end q2 G2 b2 hq
              case rel => exact early_end q2 G2 b2 hq hz
            case rest =>
              obtain ⟨gB, rfl, rfl, qB, qA, G3, b3⟩ := hcut
              clear ng nx NK c0 c1 c2 c3 c4 c5 e1 H1 q2 G2 b2 hgd
              obtain ⟨g0, g1, g2, g3, g4, g5⟩ := six qB
              obtain ⟨c0, c1, c2, c3, c4, c5⟩ := six qA
              have y0 := qA.frozen 0
              have y1 := qA.frozen 1
              have y2 := qA.frozen 2
              have y3 := qA.frozen 3
              have y4 := qA.frozen 4
              have y5 := qA.frozen 5
              go_wp2_with fail
              go_roundw
              case rel => exact ⟨j + 1, N + 180 + n / 4, T, by omega, rfl, by go_num, HTG.out, HN2.out, six_put2 qA, Tz.Gl.on G3 (six_on _ _ _) (by omega), On.below (six_on _ _ _) b3 hgw b3.size⟩
              case measure => simp [intOf]; omega
        · rw [hr] at ht
          obtain ⟨T, hT, hTm, hTg⟩ := good_step (sn := 4) (lv := 85) hgd h180 hMM (by simp)
          have H1 := step_is s 4 85 (N + 180 + n / 4)
          rw [hT] at H1
          replace H1 := Lib.hid H1
          have HTG := Lib.hid hTg
          have HN2 := Lib.hid hN2
          have dT : (T.m != 2) = false := by rw [hTm]; rfl
          clear hT hr hTg hTm hN2 hMM h180
          go_upto_region 12 with fail
          have eA := fun o => ((Below.refl wr.heap.size wr).alloc (Nat.le_refl _) o).cell (block_of_cell e0) |>.trans e0
          go_cut [10] from 33 to 78 (fun v10 wx => v10 = .int .i64 85 ∧ Blk wx g 27 s.cells ∧ Gl wx ∧ Below w.heap.size w wx)
          case first =>
            go_wp2_with fail
            go_meet
            case rel => exact ⟨rfl, q.alloc _, G.alloc _, b.alloc b.size _⟩
          case rest =>
            obtain ⟨rfl, q2, G2, b2⟩ := hcut
            have e1 := (b2.cell hxb).trans eW
            clear eA e0 q G b
            obtain ⟨c0, c1, c2, c3, c4, c5⟩ := six q2
            have ng := World.new_ne wc _ c0
            have nx := World.new_ne wc _ e1
            have NK := fun (w1 w2 : World) => eight_next (w := w1) (w' := w2) (g := g) (p := x.add j) (A := s) (n := n)
            go_wp2_with fail
            go_cut [11, 12] from 33 to 78 (fun v11 v12 wx => ∃ gB : Nat, v11 = .pointer (some ⟨gB, 0, none⟩) ∧ v12 = .int .i64 0 ∧ Blk wx gB 27 T.cells ∧ Blk wx g 27 s.cells ∧ Gl wx ∧ Below w.heap.size w wx)
            case first =>
              go_region_held3 (fun w' => w'.cell? ⟨g, 0, none⟩ = some (.int .i64 s.m) ∧ w'.cell? ⟨g, 1, none⟩ = some (.int .i64 s.t) ∧ w'.cell? ⟨g, 2, none⟩ = some (.int .i64 s.a) ∧ w'.cell? ⟨g, 3, none⟩ = some (.int .i64 s.b) ∧ w'.cell? ⟨g, 4, none⟩ = some (.int .i64 s.c) ∧ w'.cell? ⟨g, 5, none⟩ = some (.int .i64 s.d) ∧ w'.cell? (x.add j) = some (.int .u16 n))
                (first | go_keep | exact NK _ _ hq (by go_keep))
                (first | (go_at_call 11; refine (H1.out _ ?hgl).mono ?_; (case hgl => first | exact G2 | exact G2.alloc _); rintro e wq ⟨rfl, hq⟩; obtain ⟨k0, k1, k2, k3, k4, k5, k6⟩ := NK _ _ hq (by go_keep); have m1 := World.new_ne wq _ k0; have m2 := World.new_ne wq _ k6; try (have hz := made (w := wc) (cs := #[.int .i64 0, .int .i64 0, .int .i64 0, .int .i64 0, .int .i64 0, .int .i64 0]) (by exact rfl) hq; have z0 : wq.cell? ⟨wc.heap.size, 0, none⟩ = some (.int .i64 0) := hz.cell 0; have z1 : wq.cell? ⟨wc.heap.size, 1, none⟩ = some (.int .i64 0) := hz.cell 1; have z2 : wq.cell? ⟨wc.heap.size, 2, none⟩ = some (.int .i64 0) := hz.cell 2; have z3 : wq.cell? ⟨wc.heap.size, 3, none⟩ = some (.int .i64 0) := hz.cell 3; have z4 : wq.cell? ⟨wc.heap.size, 4, none⟩ = some (.int .i64 0) := hz.cell 4; have z5 : wq.cell? ⟨wc.heap.size, 5, none⟩ = some (.int .i64 0) := hz.cell 5; have y0 := hz.frozen 0; have y1 := hz.frozen 1; have y2 := hz.frozen 2; have y3 := hz.frozen 3; have y4 := hz.frozen 4; have y5 := hz.frozen 5)))
              all_goals go_wp2_with fail
              all_goals go_meet
              case rel => exact late_end q2 G2 b2 hq
              case rel => exact early_end q2 G2 b2 hq hz
            case rest =>
              obtain ⟨gB, rfl, rfl, qB, qA, G3, b3⟩ := hcut
              clear ng nx NK c0 c1 c2 c3 c4 c5 e1 H1 q2 G2 b2 hgd
              obtain ⟨g0, g1, g2, g3, g4, g5⟩ := six qB
              obtain ⟨c0, c1, c2, c3, c4, c5⟩ := six qA
              have y0 := qA.frozen 0
              have y1 := qA.frozen 1
              have y2 := qA.frozen 2
              have y3 := qA.frozen 3
              have y4 := qA.frozen 4
              have y5 := qA.frozen 5
              go_wp2_with fail
              go_roundw
              case rel => exact ⟨j + 1, N + 180 + n / 4, T, by omega, rfl, by go_num, HTG.out, HN2.out, six_put2 qA, Tz.Gl.on G3 (six_on _ _ _) (by omega), On.below (six_on _ _ _) b3 hgw b3.size⟩
              case measure => simp [intOf]; omega
    · have hjl : j = len := by omega
      clear hlt
      subst hjl
      obtain ⟨T, hT, hTm, hTt, hTs⟩ := good_pass hgd (by omega)
      have H2 := pass_is s (N + 240)
      rw [hT] at H2
      replace H2 := Lib.hid H2
      have ht := total_is hTs
      rw [hTt] at ht
      have HT := Lib.hid ht
      have dm : (T.m == 1) = true := by rw [hTm]; rfl
      have w5 : IntKind.i64.wrap (N + 240) = N + 240 := IntWalk.i64_in _ (by omega)
      obtain ⟨c0, c1, c2, c3, c4, c5⟩ := six q
      clear hT hTm hTt hTs ht hgd
      go_wp2_with fail
      refine (H2.out wr G).mono ?_
      rintro e w6 ⟨rfl, hb6⟩
      have b6 := below_next b hb6
      have t7 : Blk (w6.alloc (.cells #[.int .i64 T.m, .int .i64 T.t, .int .i64 T.a, .int .i64 T.b, .int .i64 T.c, .int .i64 T.d] 27)) w6.heap.size 27 T.cells := Blk.new w6 27 T.cells
      have b7 := b6.alloc b6.size (.cells #[.int .i64 T.m, .int .i64 T.t, .int .i64 T.a, .int .i64 T.b, .int .i64 T.c, .int .i64 T.d] 27)
      obtain ⟨g0, g1, g2, g3, g4, g5⟩ := six t7
      clear c0 c1 c2 c3 c4 c5 q G b hb6 b6 H2
      go_wp2_with fail
      refine (HT.out _).mono ?_
      rintro e w8 ⟨rfl, hb8⟩
      have b8 := below_next b7 hb8
      clear g0 g1 g2 g3 g4 g5 hb8 b7 t7
      go_wp2
      go_ret
      exact ⟨rfl, b8⟩
theorem gl_walk (st : Int) (a : Option Addr) (len cap : Nat) (w : World) (hG : Gl w) (h : (Lit.int .u32 st).wf = true) (hR : Row w a len cap) : LawIs 3 #[.int .u32 st, .slice a len cap] w := by
  have hb : 0 ≤ st ∧ st ≤ 4294967295 := by
    simp only [Lit.wf, IntKind.min, IntKind.max, IntKind.signed, IntKind.bits] at h
    simp at h
    omega
  by_cases hn : 60 < (len : Int)
  · exact gl_long st a len cap w hG (decide_eq_true hn)
  · exact gl_main st a len cap w hG hb.1 hb.2 hR (decide_eq_false hn)
end Go.Proofs.YtjainkepgmdkiaaDoor.Ue
