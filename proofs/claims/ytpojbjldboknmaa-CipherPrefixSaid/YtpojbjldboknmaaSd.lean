/-
  The specification's state: the walks.
-/
import Derived.Test.YtpojbjldboknmaaSc
namespace Go.Proofs.Ytpojbjldboknmaa.Sd
open Go.RowKit Go.Proofs.Ytpojbjldboknmaa.B Go.Proofs.Ytpojbjldboknmaa.Ra Go.Proofs.Ytpojbjldboknmaa.Qa Go.Proofs.Ytpojbjldboknmaa.Qb Go.Proofs.Ytpojbjldboknmaa.Ro Go.Proofs.Ytpojbjldboknmaa.Sa Go.Proofs.Ytpojbjldboknmaa.Sb Go.Proofs.YtpojbjldboknmaaW.PrintWords

/-- The four words of every state. -/
def four : List Nat := [1634760805, 857760878, 2036477234, 1797285236, 0, 0, 0, 0, 0, 0, 0, 0, 0, 0, 0, 0]
theorem four_fit : Fit four := ⟨rfl, fun x hx => by simp [four] at hx; omega⟩
theorem fl_set (s : ByteArray) (off : Nat) (l : List Nat) (j v : Nat) : ∀ k, (j < off ∨ off + k ≤ j) → (fl s off l k).set j v = fl s off (l.set j v) k
  | 0, _ => rfl
  | k + 1, h => by
    rw [fl, fl, ← fl_set s off l j v k (by omega), List.set_comm _ _ (show off + k ≠ j by omega)]
theorem two_ways (key nonce : ByteArray) (c : Nat) : fl nonce 13 ((fl key 4 four 8).set 12 c) 3 = st key c nonce := by
  rw [fl_set key 4 four 12 c 8 (by omega)]
  rfl

set_option maxHeartbeats 8000000 in
set_option maxRecDepth 100000 in
theorem ref_state_walk (key nonce : ByteArray) (c : Nat) (w : World) (hc : c < 4294967296) (h : ok key nonce) :
    Calls Try.prog 10 #[.string key, .int .u32 (c : Int), .string nonce] w fun e w' => e = .returned (.tuple #[.agg (ws (st key c nonce)), .int .i64 0]) ∧ Below w.heap.size w w' := by
  obtain ⟨h1, h2⟩ := h
  have hs : (w.alloc (.cells zs 23)).heap.size = w.heap.size + 1 := by show (w.heap.push _).size = _; simp
  have hz : Blk ((w.alloc (.cells zs 23)).alloc (.cells (ws four) 23)) w.heap.size 23 zs := (Blk.new w 23 zs).alloc _
  have hw : St ((w.alloc (.cells zs 23)).alloc (.cells (ws four) 23)) (w.heap.size + 1) four := ⟨four_fit, heap_alloc2_new w _ _⟩
  have hb : Below w.heap.size w ((w.alloc (.cells zs 23)).alloc (.cells (ws four) 23)) := ((Below.refl _ _).alloc (Nat.le_refl _) _).alloc (by omega) _
  go_enter Try.func10, Try.ntmps10
  go_wp2_with fail
  change Code.wp _ _ _ _ ((w.alloc (.cells zs 23)).alloc (.cells (ws four) 23))
  clear hs
  generalize (w.alloc (.cells zs 23)).alloc (.cells (ws four) 23) = wz at hz hw hb ⊢
  go_loopw [9] (fun v wr => ∃ k : Nat, k ≤ 8 ∧ v = .int .i64 (k : Int) ∧ St wr (w.heap.size + 1) (fl key 4 four k) ∧ Blk wr w.heap.size 23 zs ∧ Below w.heap.size w wr) (fun v _ => 8 - (intOf v).toNat)
  case atStart => exact ⟨0, by omega, rfl, hw, hz, hb⟩
  case round =>
    clear hw hz hb
    obtain ⟨k, hk, rfl, hw, hz, hb⟩ := hrel
    by_cases hlt : k < 8
    · have hN : fl key 4 four (k + 1) = (fl key 4 four k).set (4 + k) (wd key (4 * k)) := rfl
      have HN := Lib.hid hN
      clear hN
      generalize fl key 4 four k = L at hw HN
      have z0 : (k : Int) < 8 := by omega
      have z1 : (4 : Int) + (k : Int) < 16 := by omega
      have z2 : IntKind.i64.wrap ((4 : Int) + (k : Int)) = (4 : Int) + (k : Int) := by
        rw [show (4 : Int) + (k : Int) = ((4 + k : Nat) : Int) by omega]
        exact IntWalk.i64_in _ (by omega)
      have z3 : ((4 : Int) + (k : Int)).toNat = 4 + k := by omega
      have z4 : IntKind.i64.wrap ((4 : Int) * (k : Int)) = (4 : Int) * (k : Int) := by
        rw [show (4 : Int) * (k : Int) = ((4 * k : Nat) : Int) by omega]
        exact IntWalk.i64_in _ (by omega)
      have z5 : ((4 : Int) * (k : Int)).toNat = 4 * k := by omega
      have z6 : (4 : Int) * (k : Int) ≤ (key.size : Int) := by omega
      have c1 := hw.cell (i := 4 + k) (by omega)
      have f1 := hw.frozen (4 + k)
      have hwd := wd_lt key (4 * k)
      go_wp2_with (first | (go_at_call 20; with_reducible refine (word_from key (4 * k) 32 _ h1 (by omega)).mono ?_; rintro e _ ⟨rfl, m, rfl⟩))
      go_roundw
      case rel => exact ⟨k + 1, by omega, by go_num, by rw [HN.out]; exact (hw.drewN m).put _ _ hwd, far_set hz m (by omega) _ _, (below_drewN hb m).setCell (by show w.heap.size ≤ w.heap.size + 1; omega) _⟩
      case measure => simp [intOf]; omega
    · obtain rfl : k = 8 := by omega
      clear hlt hk
      have c12 := hw.cell (i := 12) (by omega)
      have f12 := hw.frozen 12
      have hw12 := hw.put 12 c hc
      have hz12 := hz.far (p := ⟨w.heap.size + 1, 12, none⟩) (by show w.heap.size ≠ w.heap.size + 1; omega) (.int .u32 (c : Int))
      have hb12 := hb.setCell (p := ⟨w.heap.size + 1, 12, none⟩) (by show w.heap.size ≤ w.heap.size + 1; omega) (.int .u32 (c : Int))
      clear hz hb
      go_wp2_with fail
      generalize wr.setCell ⟨w.heap.size + 1, 12, none⟩ (.int .u32 (c : Int)) = wy at hw12 hz12 hb12 ⊢
      clear hw c12 f12
      go_loopw [10] (fun v wr => ∃ k : Nat, k ≤ 3 ∧ v = .int .i64 (k : Int) ∧ St wr (w.heap.size + 1) (fl nonce 13 ((fl key 4 four 8).set 12 c) k) ∧ Blk wr w.heap.size 23 zs ∧ Below w.heap.size w wr) (fun v _ => 3 - (intOf v).toNat)
      case atStart => exact ⟨0, by omega, rfl, hw12, hz12, hb12⟩
      case round =>
        clear hw12 hz12 hb12
        obtain ⟨k, hk, rfl, hw, hz, hb⟩ := hrel
        by_cases hlt : k < 3
        · have hN : fl nonce 13 ((fl key 4 four 8).set 12 c) (k + 1) = (fl nonce 13 ((fl key 4 four 8).set 12 c) k).set (13 + k) (wd nonce (4 * k)) := rfl
          have HN := Lib.hid hN
          clear hN
          generalize fl nonce 13 ((fl key 4 four 8).set 12 c) k = L at hw HN
          have z0 : (k : Int) < 3 := by omega
          have z1 : (13 : Int) + (k : Int) < 16 := by omega
          have z2 : IntKind.i64.wrap ((13 : Int) + (k : Int)) = (13 : Int) + (k : Int) := by
            rw [show (13 : Int) + (k : Int) = ((13 + k : Nat) : Int) by omega]
            exact IntWalk.i64_in _ (by omega)
          have z3 : ((13 : Int) + (k : Int)).toNat = 13 + k := by omega
          have z4 : IntKind.i64.wrap ((4 : Int) * (k : Int)) = (4 : Int) * (k : Int) := by
            rw [show (4 : Int) * (k : Int) = ((4 * k : Nat) : Int) by omega]
            exact IntWalk.i64_in _ (by omega)
          have z5 : ((4 : Int) * (k : Int)).toNat = 4 * k := by omega
          have z6 : (4 : Int) * (k : Int) ≤ (nonce.size : Int) := by omega
          have c1 := hw.cell (i := 13 + k) (by omega)
          have f1 := hw.frozen (13 + k)
          have hwd := wd_lt nonce (4 * k)
          go_wp2_with (first | (go_at_call 20; with_reducible refine (word_from nonce (4 * k) 12 _ h2 (by omega)).mono ?_; rintro e _ ⟨rfl, m, rfl⟩))
          refine ⟨?_, ?measure⟩
          case measure => simp [intOf]; omega
          repeat apply Exists.intro
          exact ⟨⟨k + 1, by omega, rfl, by rw [HN.out]; exact (hw.drewN m).put _ _ hwd, far_set hz m (by omega) _ _, (below_drewN hb m).setCell (by show w.heap.size ≤ w.heap.size + 1; omega) _⟩, rfl⟩
        · obtain rfl : k = 3 := by omega
          clear hlt hk
          have hsz := size23 hw.1
          rw [two_ways] at hw hsz
          go_wp2_with (first | (refine wpList_load_row rfl 23 (.tmp 8) rfl (w.heap.size + 1) rfl 23 _ (0, 0) _ hw.2 Try.underlying23 rfl hsz ?_) | (refine wpList_store_row rfl 23 (.tmp 6) (.tmp 50) rfl w.heap.size (ws (st key c nonce)) rfl rfl 23 _ hz hsz (by rw [ws_size, hw.1.1]; rfl) (ws_one _) ?_))
          refine bodyPost_ret (results_row_tmp rfl _ _ w.heap.size 23 (ws (st key c nonce)) (0, 0) _ rfl (setRow_heap _ _ _ _ _ _ hz) Try.underlying23 rfl hsz) rfl ?_
          exact ⟨rfl, below_setRow hb (Nat.le_refl _) _⟩
set_option maxHeartbeats 8000000 in
set_option maxRecDepth 100000 in
theorem ref_state_none (key nonce : ByteArray) (c : Int) (w : World) (h : ¬ ok key nonce) :
    Calls Try.prog 10 #[.string key, .int .u32 c, .string nonce] w fun e w' => e = .returned (.tuple #[.agg (ws noughts), .int .i64 1]) ∧ Below w.heap.size w w' := by
  have hs : (w.alloc (.cells zs 23)).heap.size = w.heap.size + 1 := by show (w.heap.push _).size = _; simp
  have hz : Blk ((w.alloc (.cells zs 23)).alloc (.cells zs 23)) w.heap.size 23 zs := (Blk.new w 23 zs).alloc _
  have hy : Blk ((w.alloc (.cells zs 23)).alloc (.cells zs 23)) (w.heap.size + 1) 23 zs := heap_alloc2_new w _ _
  have h0 : Below w.heap.size w ((w.alloc (.cells zs 23)).alloc (.cells zs 23)) := ((Below.refl _ _).alloc (Nat.le_refl _) _).alloc (by omega) _
  have hsz := size23 noughts_fit
  clear hs
  by_cases h1 : key.size = 32
  · have h2 : ¬ nonce.size = 12 := fun e => h ⟨h1, e⟩
    have z1 : ((key.size : Int) != 32) = false := by simp; omega
    have z2 : ((nonce.size : Int) != 12) = true := by simp; omega
    clear h h1 h2
    go_enter Try.func10, Try.ntmps10
    go_wp2_with (first | (refine wpList_load_row rfl 23 (.tmp 8) rfl (w.heap.size + 1) rfl 23 _ (0, 0) _ hy Try.underlying23 rfl hsz ?_) | (refine wpList_store_row rfl 23 (.tmp 6) (.tmp 19) rfl w.heap.size (ws noughts) rfl rfl 23 _ hz hsz rfl (ws_one _) ?_))
    refine bodyPost_ret (results_row_tmp rfl _ _ w.heap.size 23 (ws noughts) (0, 0) _ rfl (setRow_heap _ _ _ _ _ _ hz) Try.underlying23 rfl hsz) rfl ?_
    exact ⟨rfl, below_setRow h0 (Nat.le_refl _) _⟩
  · have z1 : ((key.size : Int) != 32) = true := by simp; omega
    clear h h1
    go_enter Try.func10, Try.ntmps10
    go_wp2_with (first | (refine wpList_load_row rfl 23 (.tmp 8) rfl (w.heap.size + 1) rfl 23 _ (0, 0) _ hy Try.underlying23 rfl hsz ?_) | (refine wpList_store_row rfl 23 (.tmp 6) (.tmp 19) rfl w.heap.size (ws noughts) rfl rfl 23 _ hz hsz rfl (ws_one _) ?_))
    refine bodyPost_ret (results_row_tmp rfl _ _ w.heap.size 23 (ws noughts) (0, 0) _ rfl (setRow_heap _ _ _ _ _ _ hz) Try.underlying23 rfl hsz) rfl ?_
    exact ⟨rfl, below_setRow h0 (Nat.le_refl _) _⟩
end Go.Proofs.Ytpojbjldboknmaa.Sd
