/-
  The inverse rounds of the specification: the walk.
-/
import Derived.Test.YtpojbjldboknmaaRo
namespace Go.Proofs.Ytpojbjldboknmaa.Ru
open Go.RowKit Go.Proofs.Ytpojbjldboknmaa.B Go.Proofs.Ytpojbjldboknmaa.Ra Go.Proofs.Ytpojbjldboknmaa.Qa Go.Proofs.Ytpojbjldboknmaa.Qb Go.Proofs.Ytpojbjldboknmaa.Ro Go.Proofs.YtpojbjldboknmaaW.PrintWords

theorem un_fit {l : List Nat} (h : Fit l) (a b c d : Nat) : Fit (un l a b c d) := by
  have hs : ∀ {l : List Nat}, Fit l → ∀ i j, Fit (subFrom l i j) := fun h i j => fit_set h _ _ (Nat.mod_lt _ (by omega))
  have hb : ∀ {l : List Nat}, Fit l → ∀ i j n, n ∈ [7, 8, 12, 16, 20, 24, 25] → Fit (turnBack l i j n) := fun h i j n hn => fit_set h _ _ (xor_lt32 _ _ (rot_lt _ _ (gt_lt h i) hn) (gt_lt h j))
  unfold un
  exact hs (hb (hs (hb (hs (hb (hs (hb h _ _ _ (by decide)) _ _) _ _ _ (by decide)) _ _) _ _ _ (by decide)) _ _) _ _ _ (by decide)) _ _
/-- The first steps back of a double round. -/
def unr (l : List Nat) : Nat → List Nat
  | 0 => l
  | j + 1 => un (unr l j) (oa (7 - j)) (ob (7 - j)) (oc (7 - j)) (od (7 - j))
/-- Double rounds back. -/
def udn (l : List Nat) : Nat → List Nat
  | 0 => l
  | i + 1 => unr (udn l i) 8
set_option maxHeartbeats 8000000 in
set_option maxRecDepth 100000 in
theorem ref_undo_walk (l : List Nat) (w : World) (hl : Fit l) :
    Calls Try.prog 16 #[.agg (ws l)] w fun e w' => e = .returned (.agg (ws (udn l 10))) ∧ Below w.heap.size w w' := by
  have h : St ((w.alloc (.cells (ws l) 23)).alloc (.cells zs 23)) w.heap.size l := ⟨hl, (Blk.new w 23 (ws l)).alloc _⟩
  have hz : Blk ((w.alloc (.cells (ws l) 23)).alloc (.cells zs 23)) (w.heap.size + 1) 23 zs := heap_alloc2_new w _ _
  have h0 : Below w.heap.size w ((w.alloc (.cells (ws l) 23)).alloc (.cells zs 23)) := ((Below.refl _ _).alloc (Nat.le_refl _) _).alloc (by show w.heap.size ≤ (w.heap.push _).size; simp) _
  have hs : ((w.alloc (.cells (ws l) 23)).alloc (.cells zs 23)).heap.size = w.heap.size + 2 := by show ((w.heap.push _).push _).size = _; simp
  go_enter Try.func16, Try.ntmps16
  go_wp2_with fail
  go_at_call 24
  change Calls _ _ _ ((w.alloc (.cells (ws l) 23)).alloc (.cells zs 23)) _
  generalize (w.alloc (.cells (ws l) 23)).alloc (.cells zs 23) = wz at h hz h0 hs ⊢
  refine (order_walk _).mono ?_
  rintro e w1 ⟨A, c, rfl, hO, hb1⟩
  rw [hs] at hO
  have h := h.below hb1 h.lt
  have hz := hz.below hb1 hz.lt
  have h0 := h0.trans (hb1.mono h0.size)
  clear hb1 hs
  go_wp2_with fail
  go_loopw [4] (fun v4 wr => ∃ i : Nat, i ≤ 10 ∧ v4 = .int .i64 (i : Int) ∧ St wr w.heap.size (udn l i) ∧ Blk wr (w.heap.size + 1) 23 zs ∧ Ol wr (w.heap.size + 2) A c ∧ Below w.heap.size w wr) (fun v4 _ => 10 - (intOf v4).toNat)
  case atStart => exact ⟨0, by omega, rfl, h, hz, hO, h0⟩
  case round =>
    obtain ⟨i, hi, rfl, hw, hz, hO, hb⟩ := hrel
    by_cases hlt : i < 10
    · have zi : (i : Int) < 10 := by omega
      go_wp2_with fail
      go_loopw [5] (fun v5 wr => ∃ k : Nat, k ≤ 8 ∧ v5 = .int .i64 ((k : Int) - 1) ∧ St wr w.heap.size (unr (udn l i) (8 - k)) ∧ Blk wr (w.heap.size + 1) 23 zs ∧ Ol wr (w.heap.size + 2) A c ∧ Below w.heap.size w wr) (fun v5 _ => (intOf v5 + 1).toNat)
      case atStart => exact ⟨8, by omega, rfl, hw, hz, hO, hb⟩
      case round =>
        clear hw hz hO hb
        obtain ⟨k, hk, rfl, hw, hz, hO, hb⟩ := hrel
        by_cases hl0 : 0 < k
        · obtain ⟨k, rfl⟩ : ∃ j, k = j + 1 := ⟨k - 1, by omega⟩
          have hlk : k < 8 := by omega
          rw [show (((k + 1 : Nat) : Int) - 1) = (k : Int) by omega]
          have hge : (0 : Int) ≤ (k : Int) := by omega
          obtain ⟨ad, ad0, c0, rfl, r0, r1, r2, r3, r4⟩ := hO.row k hlk
          have hqf := un_fit hw.1 (oa k) (ob k) (oc k) (od k)
          have hN : unr (udn l i) (8 - k) = un (unr (udn l i) (8 - (k + 1))) (oa k) (ob k) (oc k) (od k) := by
            obtain ⟨j, hj⟩ : ∃ j, 8 - (k + 1) = j := ⟨_, rfl⟩
            have h1 : 8 - k = j + 1 := by omega
            have h2 : k = 7 - j := by omega
            rw [hj, h1, unr, ← h2]
          have HN := Lib.hid hN
          clear hN
          generalize unr (udn l i) (8 - (k + 1)) = L at hw hqf HN
          have hws := ws_all hw.1
          have k0 := hw.cell (i := 0) (by omega)
          have k1 := hw.cell (i := 1) (by omega)
          have k2 := hw.cell (i := 2) (by omega)
          have k3 := hw.cell (i := 3) (by omega)
          have k4 := hw.cell (i := 4) (by omega)
          have k5 := hw.cell (i := 5) (by omega)
          have k6 := hw.cell (i := 6) (by omega)
          have k7 := hw.cell (i := 7) (by omega)
          have k8 := hw.cell (i := 8) (by omega)
          have k9 := hw.cell (i := 9) (by omega)
          have k10 := hw.cell (i := 10) (by omega)
          have k11 := hw.cell (i := 11) (by omega)
          have k12 := hw.cell (i := 12) (by omega)
          have k13 := hw.cell (i := 13) (by omega)
          have k14 := hw.cell (i := 14) (by omega)
          have k15 := hw.cell (i := 15) (by omega)
          have r1b : wr.cell? ad0 = some (.int .i64 (oa k : Nat)) := r1
          have r2b : wr.cell? ⟨ad0.block, ad0.off + 1, none⟩ = some (.int .i64 (ob k : Nat)) := r2
          have r3b : wr.cell? ⟨ad0.block, ad0.off + 2, none⟩ = some (.int .i64 (oc k : Nat)) := r3
          have r4b : wr.cell? ⟨ad0.block, ad0.off + 3, none⟩ = some (.int .i64 (od k : Nat)) := r4
          have zk : (k : Int) < 8 := by omega
          have yk : IntKind.i64.wrap (k : Int) = k := IntWalk.i64_in _ (by omega)
          go_wp2
          refine Q.wp_quiet_tail 25 (by kernel_rfl) (by kernel_rfl) ?_
          simp only [List.take_succ_cons, List.take_zero, List.drop_succ_cons, List.drop_zero]
          repeat go_big_quiet_step (fail)
          refine wpQuiet_nil ?_
          intro _ hw'
          obtain ⟨m, rfl⟩ := hw'
          have hfit : Fit L := hw.1
          have hsz : (Try.prog.info? 23).map (·.size) = some (ws (un L (oa k) (ob k) (oc k) (od k))).size := by rw [ws_size, hqf.1]; rfl
          go_wp2_with fail
          try go_at_call 26
          with_reducible refine (undo_walk L (oa k) (ob k) (oc k) (od k) _ hfit (oa_lt k) (ob_lt k) (oc_lt k) (od_lt k)).mono ?_
          rintro e w2 ⟨rfl, hb2⟩
          have hw2 := (hw.drewN m).below hb2 hw.lt
          have hz2 := (hz.drewN m).below hb2 hz.lt
          have hO2 := (hO.drewN m).below hb2
          have hbb := below_next (below_drewN hb m) hb2
          go_wp2_with (first | (refine wpList_store_row rfl 23 (.tmp 1) (.tmp 43) rfl w.heap.size (ws (un L (oa k) (ob k) (oc k) (od k))) rfl rfl 23 (ws L) hw2.2 hsz (by rw [ws_size, ws_size, hqf.1, hw.1.1]) (ws_one _) ?_))
          go_roundw
          case rel =>
            exact ⟨k, by omega, by go_num, by rw [HN.out]; exact ⟨hqf, setRow_heap _ _ _ _ _ _ hw2.2⟩, (setRow_other _ _ _ _ (by omega)).trans hz2, hO2.setRow (by omega) _, below_setRow hbb (Nat.le_refl _) _⟩
          case measure => simp [intOf]
        · obtain rfl : k = 0 := by omega
          clear hl0 hk
          go_wp2_with fail
          go_roundw
          case rel => exact ⟨i + 1, by omega, by go_num, hw, hz, hO, hb⟩
          case measure => simp [intOf]; omega
    · obtain rfl : i = 10 := by omega
      clear hlt hi
      have hsz : (Try.prog.info? 23).map (·.size) = some (ws (udn l 10)).size := by rw [ws_size, hw.1.1]; rfl
      go_wp2_with (first | (refine wpList_load_row rfl 23 (.tmp 1) rfl w.heap.size rfl 23 _ (0, 0) _ hw.2 Try.underlying23 rfl hsz ?_) | (refine wpList_store_row rfl 23 (.tmp 2) (.tmp 44) rfl (w.heap.size + 1) (ws (udn l 10)) rfl rfl 23 zs hz hsz (by rw [ws_size, hw.1.1]; rfl) (ws_one _) ?_))
      refine bodyPost_ret (results_cell_row rfl _ _ (w.heap.size + 1) 23 (ws (udn l 10)) (0, 0) _ rfl (setRow_heap _ _ _ _ _ _ hz) Try.underlying23 rfl hsz) rfl ?_
      exact ⟨rfl, below_setRow hb (by omega) _⟩
end Go.Proofs.Ytpojbjldboknmaa.Ru
