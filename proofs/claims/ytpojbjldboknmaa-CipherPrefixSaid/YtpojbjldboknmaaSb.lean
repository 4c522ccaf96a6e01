/-
  The states: the walks of the code's and of the specification's.
-/
import Derived.Test.YtpojbjldboknmaaSa
namespace Go.Proofs.Ytpojbjldboknmaa.Sb
open Go.RowKit Go.Proofs.Ytpojbjldboknmaa.B Go.Proofs.Ytpojbjldboknmaa.Ra Go.Proofs.Ytpojbjldboknmaa.Qa Go.Proofs.Ytpojbjldboknmaa.Qb Go.Proofs.Ytpojbjldboknmaa.Ro Go.Proofs.Ytpojbjldboknmaa.Sa Go.Proofs.YtpojbjldboknmaaW.PrintWords

theorem results_row_tmp {P : Program} {fn : Func} {p q : Tmp} {ty : TypeId} (h : fn.results = #[.cell p ty, .tmp q]) (tmps : Array Value) (w : World) (g : Nat) (t : TypeId) (cs : Array Value) (fr : Nat × Nat) (d : TypeDesc)
    (hp : tmps.getD p undef = .pointer (some ⟨g, 0, none⟩)) (hg : w.heap[g]? = some (.cells cs t fr))
    (hu : P.underlying ty = some d) (hd : (match d with | .struct _ | .array _ _ => true | _ => false) = true) (hi : (P.info? ty).map (·.size) = some cs.size) :
    (results fn tmps).run P w = .ok (.tuple #[.agg cs, tmps.getD q undef]) w := by
  have hp' : tmps[p]?.getD undef = .pointer (some ⟨g, 0, none⟩) := by simpa using hp
  simp [results, h, hp', asAddr, run_loadVar_row w g t ty cs fr d hg hu hd hi]
theorem zs_ws : zs = ws noughts := rfl
theorem size23 {l : List Nat} (h : Fit l) : (Try.prog.info? 23).map (·.size) = some (ws l).size := by rw [ws_size, h.1]; rfl

set_option maxHeartbeats 8000000 in
set_option maxRecDepth 100000 in
theorem state_walk (key nonce : ByteArray) (c : Nat) (w : World) (hc : c < 4294967296) (h : ok key nonce) :
    Calls Try.prog 9 #[.string key, .int .u32 (c : Int), .string nonce] w fun e w' => e = .returned (.tuple #[.agg (ws (st key c nonce)), .int .i64 0]) ∧ Below w.heap.size w w' := by
  obtain ⟨h1, h2⟩ := h
  have hz : Blk (w.alloc (.cells zs 23)) w.heap.size 23 zs := Blk.new w 23 zs
  have h0 : Below w.heap.size w (w.alloc (.cells zs 23)) := (Below.refl _ _).alloc (Nat.le_refl _) _
  have hsz := size23 (start_fit c hc)
  go_enter Try.func9, Try.ntmps9
  go_wp2_with (first | (refine wpList_store_row rfl 23 (.tmp 6) (.tmp 20) rfl w.heap.size (ws (beg c)) rfl rfl 23 zs hz hsz rfl (ws_one _) ?_))
  go_loopw [21] (fun v wr => ∃ k : Nat, k ≤ 8 ∧ v = .int .i64 (k : Int) ∧ St wr w.heap.size (fl key 4 (beg c) k) ∧ Below w.heap.size w wr) (fun v _ => 8 - (intOf v).toNat)
  case atStart => exact ⟨0, by omega, rfl, ⟨start_fit c hc, setRow_heap _ _ _ _ _ _ hz⟩, below_setRow h0 (Nat.le_refl _) _⟩
  case round =>
    obtain ⟨k, hk, rfl, hw, hb⟩ := hrel
    by_cases hlt : k < 8
    · have hN : fl key 4 (beg c) (k + 1) = (fl key 4 (beg c) k).set (4 + k) (wd key (4 * k)) := rfl
      have HN := Lib.hid hN
      clear hN
      generalize fl key 4 (beg c) k = L at hw HN
      have z0 : (k : Int) < 8 := by omega
      have z1 : (4 : Int) + (k : Int) < 16 := by omega
      have z2 : IntKind.i64.wrap ((4 : Int) + (k : Int)) = (4 : Int) + (k : Int) := by
        rw [show (4 : Int) + (k : Int) = ((4 + k : Nat) : Int) by omega]
        exact IntWalk.i64_in _ (by omega)
      have z3 : ((4 : Int) + (k : Int)).toNat = 4 + k := by omega
      have z4 : IntKind.i64.wrap ((4 : Int) * (k : Int)) = (4 : Int) * (k : Int) := by
        rw [show (4 : Int) * (k : Int) = ((4 * k : Nat) : Int) by omega]
        exact IntWalk.i64_in _ (by omega)
      have z5 : ((4 : Int) * (k : Int)).toNat = 4 * k := by omega
      have z6 : (4 : Int) * (k : Int) ≤ (key.size : Int) := by omega
      have c1 := hw.cell (i := 4 + k) (by omega)
      have f1 := hw.frozen (4 + k)
      have hwd := wd_lt key (4 * k)
      go_wp2_with (first | (go_at_call 19; with_reducible refine (get_from key (4 * k) 32 _ h1 (by omega)).mono ?_; rintro e _ ⟨rfl, m, rfl⟩))
      go_roundw
      case rel => exact ⟨k + 1, by omega, by go_num, by rw [HN.out]; exact (hw.drewN m).put _ _ hwd, (below_drewN hb m).setCell (by exact Nat.le_refl _) _⟩
      case measure => simp [intOf]; omega
    · obtain rfl : k = 8 := by omega
      clear hlt hk
      go_wp2_with fail
      go_loopw [33] (fun v wr => ∃ k : Nat, k ≤ 3 ∧ v = .int .i64 (k : Int) ∧ St wr w.heap.size (fl nonce 13 (fl key 4 (beg c) 8) k) ∧ Below w.heap.size w wr) (fun v _ => 3 - (intOf v).toNat)
      case atStart => exact ⟨0, by omega, rfl, hw, hb⟩
      case round =>
        clear hw hb
        obtain ⟨k, hk, rfl, hw, hb⟩ := hrel
        by_cases hlt : k < 3
        · have hN : fl nonce 13 (fl key 4 (beg c) 8) (k + 1) = (fl nonce 13 (fl key 4 (beg c) 8) k).set (13 + k) (wd nonce (4 * k)) := rfl
          have HN := Lib.hid hN
          clear hN
          generalize fl nonce 13 (fl key 4 (beg c) 8) k = L at hw HN
          have z0 : (k : Int) < 3 := by omega
          have z1 : (13 : Int) + (k : Int) < 16 := by omega
          have z2 : IntKind.i64.wrap ((13 : Int) + (k : Int)) = (13 : Int) + (k : Int) := by
            rw [show (13 : Int) + (k : Int) = ((13 + k : Nat) : Int) by omega]
            exact IntWalk.i64_in _ (by omega)
          have z3 : ((13 : Int) + (k : Int)).toNat = 13 + k := by omega
          have z4 : IntKind.i64.wrap ((4 : Int) * (k : Int)) = (4 : Int) * (k : Int) := by
            rw [show (4 : Int) * (k : Int) = ((4 * k : Nat) : Int) by omega]
            exact IntWalk.i64_in _ (by omega)
          have z5 : ((4 : Int) * (k : Int)).toNat = 4 * k := by omega
          have z6 : (4 : Int) * (k : Int) ≤ (nonce.size : Int) := by omega
          have c1 := hw.cell (i := 13 + k) (by omega)
          have f1 := hw.frozen (13 + k)
          have hwd := wd_lt nonce (4 * k)
          go_wp2_with (first | (go_at_call 19; with_reducible refine (get_from nonce (4 * k) 12 _ h2 (by omega)).mono ?_; rintro e _ ⟨rfl, m, rfl⟩))
          refine ⟨?_, ?measure⟩
          case measure => simp [intOf]; omega
          repeat apply Exists.intro
          exact ⟨⟨k + 1, by omega, rfl, by rw [HN.out]; exact (hw.drewN m).put _ _ hwd, (below_drewN hb m).setCell (by exact Nat.le_refl _) _⟩, rfl⟩
        · obtain rfl : k = 3 := by omega
          clear hlt hk
          have hsz := size23 hw.1
          go_wp2_with (first | (refine wpList_load_row rfl 23 (.tmp 6) rfl w.heap.size rfl 23 _ (0, 0) _ hw.2 Try.underlying23 rfl hsz ?_) | (refine wpList_store_row rfl 23 (.tmp 6) (.tmp 45) rfl w.heap.size (ws (st key c nonce)) rfl rfl 23 _ hw.2 hsz rfl (ws_one _) ?_))
          refine bodyPost_ret (results_row_tmp rfl _ _ w.heap.size 23 (ws (st key c nonce)) (0, 0) _ rfl (setRow_heap _ _ _ _ _ _ hw.2) Try.underlying23 rfl hsz) rfl ?_
          exact ⟨rfl, below_setRow hb (Nat.le_refl _) _⟩
end Go.Proofs.Ytpojbjldboknmaa.Sb
