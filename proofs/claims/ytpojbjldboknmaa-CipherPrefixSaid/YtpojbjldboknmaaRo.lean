/-
  The rounds of the specification and their inverse: the walks.
-/
import Derived.Test.YtpojbjldboknmaaPCipherMatchesSpecx1
import Derived.Test.YtpojbjldboknmaaQb
namespace Go.Proofs.Ytpojbjldboknmaa.Ro
open Go.RowKit Go.Proofs.Ytpojbjldboknmaa.B Go.Proofs.Ytpojbjldboknmaa.Ra Go.Proofs.Ytpojbjldboknmaa.Qa Go.Proofs.Ytpojbjldboknmaa.Qb Go.Proofs.YtpojbjldboknmaaW.PrintWords

/-- The words of the quarter rounds. -/
def ORD : List (List Int) := [[0, 4, 8, 12], [1, 5, 9, 13], [2, 6, 10, 14], [3, 7, 11, 15], [0, 5, 10, 15], [1, 6, 11, 12], [2, 7, 8, 13], [3, 4, 9, 14]]
def oa (k : Nat) : Nat := k % 4
def ob (k : Nat) : Nat := if k < 4 then 4 + k else 4 + (k - 4 + 1) % 4
def oc (k : Nat) : Nat := if k < 4 then 8 + k else 8 + (k - 4 + 2) % 4
def od (k : Nat) : Nat := if k < 4 then 12 + k else 12 + (k - 4 + 3) % 4
theorem oa_lt (k : Nat) : oa k < 16 := by unfold oa; omega
theorem ob_lt (k : Nat) : ob k < 16 := by unfold ob; split <;> omega
theorem oc_lt (k : Nat) : oc k < 16 := by unfold oc; split <;> omega
theorem od_lt (k : Nat) : od k < 16 := by unfold od; split <;> omega
theorem ord_rows : ∀ k, k < 8 → ORD.getD k [] = [(oa k : Int), (ob k : Int), (oc k : Int), (od k : Int)] := by decide
/-- The first quarter rounds of a double round. -/
def inr (l : List Nat) : Nat → List Nat
  | 0 => l
  | k + 1 => qr (inr l k) (oa k) (ob k) (oc k) (od k)
/-- Double rounds. -/
def dn (l : List Nat) : Nat → List Nat
  | 0 => l
  | i + 1 => inr (dn l i) 8
theorem qr_fit {l : List Nat} (h : Fit l) (a b c d : Nat) : Fit (qr l a b c d) := by
  unfold qr
  exact turnTo_fit (addTo_fit (turnTo_fit (addTo_fit (turnTo_fit (addTo_fit (turnTo_fit (addTo_fit h _ _) _ _ _ (by decide)) _ _) _ _ _ (by decide)) _ _) _ _ _ (by decide)) _ _) _ _ _ (by decide)
theorem inr_fit {l : List Nat} (h : Fit l) : ∀ k, Fit (inr l k)
  | 0 => h
  | k + 1 => qr_fit (inr_fit h k) _ _ _ _
theorem dn_fit {l : List Nat} (h : Fit l) : ∀ k, Fit (dn l k)
  | 0 => h
  | k + 1 => inr_fit (dn_fit h k) 8

/-- The order lies at the address, in blocks from b on. -/
def Ol (w : World) (b : Nat) (A : Option Addr) (c : Nat) : Prop := Kd.N (Kd.slice 3 (Kd.int .i64)) 47 w b (fun k => b ≤ k) (.slice A 8 c) ORD
theorem order_walk (w : World) : Calls Try.prog 24 #[] w fun e w' => ∃ A c, e = .returned (.slice A 8 c) ∧ Ol w' w.heap.size A c ∧ Below w.heap.size w w' := by
  refine (PCipherMatchesSpec.custodyref03_Order.calls ORD w rfl).mono ?_
  rintro e w' ⟨v, rfl, hN, hb⟩
  obtain ⟨A, c, rfl⟩ := Kd.N_slice hN
  exact ⟨A, c, rfl, hN, hb⟩
theorem Ol.below {w w' : World} {b c : Nat} {A : Option Addr} (h : Ol w b A c) (hb : Below w.heap.size w w') : Ol w' b A c := Kd.N_below h hb
theorem Ol.drewN {w : World} {b c : Nat} {A : Option Addr} (h : Ol w b A c) (n : Nat) : Ol (w.drewN n) b A c := Kd.N_drewN h n
theorem Ol.setRow {w : World} {b c g : Nat} {A : Option Addr} (h : Ol w b A c) (hg : g < b) (cs : Array Value) : Ol (w.setRow g cs) b A c := Kd.N_step h (fun k hk _ => setRow_other w g k cs (by omega))
theorem Ol.row {w : World} {b c : Nat} {A : Option Addr} (h : Ol w b A c) (k : Nat) (hk : k < 8) : ∃ ad ad0 c0, A = some ad ∧ w.cell? (ad.add k) = some (.slice (some ad0) 4 c0) ∧ w.cell? (ad0.add 0) = some (.int .i64 (oa k : Nat)) ∧ w.cell? (ad0.add 1) = some (.int .i64 (ob k : Nat)) ∧ w.cell? (ad0.add 2) = some (.int .i64 (oc k : Nat)) ∧ w.cell? (ad0.add 3) = some (.int .i64 (od k : Nat)) := by
  have hC := (Kd.N_reads' h).2.2
  obtain ⟨ad, A0, c0, e, h1, h2, h3⟩ := PCipherMatchesSpec.at_L2 hC (k : Int) (by omega) (by show (k : Int) < ((8 : Nat) : Int); omega)
  rw [show PCipherMatchesSpec.rd_L2 ORD (k : Int) = [(oa k : Int), (ob k : Int), (oc k : Int), (od k : Int)] by
    show ORD.getD ((k : Int).toNat) [] = _
    rw [Int.toNat_natCast, ord_rows k hk]] at h1 h2 h3
  obtain ⟨ad0, e0, g0⟩ := Kd.at_int h3 ((0 : Nat) : Int) (by omega) (by simp)
  obtain ⟨ad1, e1, g1⟩ := Kd.at_int h3 ((1 : Nat) : Int) (by omega) (by simp)
  obtain ⟨ad2, e2, g2⟩ := Kd.at_int h3 ((2 : Nat) : Int) (by omega) (by simp)
  obtain ⟨ad3, e3, g3⟩ := Kd.at_int h3 ((3 : Nat) : Int) (by omega) (by simp)
  subst e0
  obtain rfl := Option.some.inj e1
  obtain rfl := Option.some.inj e2
  obtain rfl := Option.some.inj e3
  exact ⟨ad, ad0, c0, e, h1, g0, g1, g2, g3⟩

theorem ws_one (l : List Nat) : (ws l).all (·.oneCell') = true := by simp [ws, Value.oneCell']
theorem ws_all {L : List Nat} (h : Fit L) : (#[.int .u32 ((gt L 0 : Nat) : Int), .int .u32 ((gt L 1 : Nat) : Int), .int .u32 ((gt L 2 : Nat) : Int), .int .u32 ((gt L 3 : Nat) : Int), .int .u32 ((gt L 4 : Nat) : Int), .int .u32 ((gt L 5 : Nat) : Int), .int .u32 ((gt L 6 : Nat) : Int), .int .u32 ((gt L 7 : Nat) : Int), .int .u32 ((gt L 8 : Nat) : Int), .int .u32 ((gt L 9 : Nat) : Int), .int .u32 ((gt L 10 : Nat) : Int), .int .u32 ((gt L 11 : Nat) : Int), .int .u32 ((gt L 12 : Nat) : Int), .int .u32 ((gt L 13 : Nat) : Int), .int .u32 ((gt L 14 : Nat) : Int), .int .u32 ((gt L 15 : Nat) : Int)] : Array Value) = ws L := by
  obtain ⟨h, _⟩ := h
  match L, h with
  | [_, _, _, _, _, _, _, _, _, _, _, _, _, _, _, _], _ => rfl
set_option maxHeartbeats 8000000 in
set_option maxRecDepth 100000 in
theorem ref_rounds_walk (l : List Nat) (w : World) (hl : Fit l) :
    Calls Try.prog 15 #[.agg (ws l)] w fun e w' => e = .returned (.agg (ws (dn l 10))) ∧ Below w.heap.size w w' := by
  have h : St ((w.alloc (.cells (ws l) 23)).alloc (.cells zs 23)) w.heap.size l := ⟨hl, (Blk.new w 23 (ws l)).alloc _⟩
  have hz : Blk ((w.alloc (.cells (ws l) 23)).alloc (.cells zs 23)) (w.heap.size + 1) 23 zs := heap_alloc2_new w _ _
  have h0 : Below w.heap.size w ((w.alloc (.cells (ws l) 23)).alloc (.cells zs 23)) := ((Below.refl _ _).alloc (Nat.le_refl _) _).alloc (by show w.heap.size ≤ (w.heap.push _).size; simp) _
  have hs : ((w.alloc (.cells (ws l) 23)).alloc (.cells zs 23)).heap.size = w.heap.size + 2 := by show ((w.heap.push _).push _).size = _; simp
  go_enter Try.func15, Try.ntmps15
  go_wp2_with fail
  go_at_call 24
  change Calls _ _ _ ((w.alloc (.cells (ws l) 23)).alloc (.cells zs 23)) _
  generalize (w.alloc (.cells (ws l) 23)).alloc (.cells zs 23) = wz at h hz h0 hs ⊢
  refine (order_walk _).mono ?_
  rintro e w1 ⟨A, c, rfl, hO, hb1⟩
  rw [hs] at hO
  have h := h.below hb1 h.lt
  have hz := hz.below hb1 hz.lt
  have h0 := h0.trans (hb1.mono h0.size)
  clear hb1 hs
  go_wp2_with fail
  go_loopw [4] (fun v4 wr => ∃ i : Nat, i ≤ 10 ∧ v4 = .int .i64 (i : Int) ∧ St wr w.heap.size (dn l i) ∧ Blk wr (w.heap.size + 1) 23 zs ∧ Ol wr (w.heap.size + 2) A c ∧ Below w.heap.size w wr) (fun v4 _ => 10 - (intOf v4).toNat)
  case atStart => exact ⟨0, by omega, rfl, h, hz, hO, h0⟩
  case round =>
    obtain ⟨i, hi, rfl, hw, hz, hO, hb⟩ := hrel
    by_cases hlt : i < 10
    · have zi : (i : Int) < 10 := by omega
      go_wp2_with fail
      go_loopw [5] (fun v5 wr => ∃ k : Nat, k ≤ 8 ∧ v5 = .int .i64 (k : Int) ∧ St wr w.heap.size (inr (dn l i) k) ∧ Blk wr (w.heap.size + 1) 23 zs ∧ Ol wr (w.heap.size + 2) A c ∧ Below w.heap.size w wr) (fun v5 _ => 8 - (intOf v5).toNat)
      case atStart => exact ⟨0, by omega, rfl, hw, hz, hO, hb⟩
      case round =>
        clear hw hz hO hb
        obtain ⟨k, hk, rfl, hw, hz, hO, hb⟩ := hrel
        by_cases hlk : k < 8
        · obtain ⟨ad, ad0, c0, rfl, r0, r1, r2, r3, r4⟩ := hO.row k hlk
          have hqf := qr_fit hw.1 (oa k) (ob k) (oc k) (od k)
          have hN : inr (dn l i) (k + 1) = qr (inr (dn l i) k) (oa k) (ob k) (oc k) (od k) := rfl
          have HN := Lib.hid hN
          clear hN
          generalize inr (dn l i) k = L at hw hqf HN
          have hws := ws_all hw.1
          have k0 := hw.cell (i := 0) (by omega)
          have k1 := hw.cell (i := 1) (by omega)
          have k2 := hw.cell (i := 2) (by omega)
          have k3 := hw.cell (i := 3) (by omega)
          have k4 := hw.cell (i := 4) (by omega)
          have k5 := hw.cell (i := 5) (by omega)
          have k6 := hw.cell (i := 6) (by omega)
          have k7 := hw.cell (i := 7) (by omega)
          have k8 := hw.cell (i := 8) (by omega)
          have k9 := hw.cell (i := 9) (by omega)
          have k10 := hw.cell (i := 10) (by omega)
          have k11 := hw.cell (i := 11) (by omega)
          have k12 := hw.cell (i := 12) (by omega)
          have k13 := hw.cell (i := 13) (by omega)
          have k14 := hw.cell (i := 14) (by omega)
          have k15 := hw.cell (i := 15) (by omega)
          have r1b : wr.cell? ad0 = some (.int .i64 (oa k : Nat)) := r1
          have r2b : wr.cell? ⟨ad0.block, ad0.off + 1, none⟩ = some (.int .i64 (ob k : Nat)) := r2
          have r3b : wr.cell? ⟨ad0.block, ad0.off + 2, none⟩ = some (.int .i64 (oc k : Nat)) := r3
          have r4b : wr.cell? ⟨ad0.block, ad0.off + 3, none⟩ = some (.int .i64 (od k : Nat)) := r4
          have zk : (k : Int) < 8 := by omega
          have yk : IntKind.i64.wrap (k : Int) = k := IntWalk.i64_in _ (by omega)
          go_wp2
          refine Q.wp_quiet_tail 25 (by kernel_rfl) (by kernel_rfl) ?_
          simp only [List.take_succ_cons, List.take_zero, List.drop_succ_cons, List.drop_zero]
          repeat go_big_quiet_step (fail)
          refine wpQuiet_nil ?_
          intro _ hw'
          obtain ⟨m, rfl⟩ := hw'
          have hfit : Fit L := hw.1
          have hsz : (Try.prog.info? 23).map (·.size) = some (ws (qr L (oa k) (ob k) (oc k) (od k))).size := by rw [ws_size, hqf.1]; rfl
          go_wp2_with fail
          try go_at_call 25
          with_reducible refine (ref_quarter_walk L (oa k) (ob k) (oc k) (od k) _ hfit (oa_lt k) (ob_lt k) (oc_lt k) (od_lt k)).mono ?_
          rintro e w2 ⟨rfl, hb2⟩
          have hw2 := (hw.drewN m).below hb2 hw.lt
          have hz2 := (hz.drewN m).below hb2 hz.lt
          have hO2 := (hO.drewN m).below hb2
          have hbb := below_next (below_drewN hb m) hb2
          go_wp2_with (first | (refine wpList_store_row rfl 23 (.tmp 1) (.tmp 42) rfl w.heap.size (ws (qr L (oa k) (ob k) (oc k) (od k))) rfl rfl 23 (ws L) hw2.2 hsz (by rw [ws_size, ws_size, hqf.1, hw.1.1]) (ws_one _) ?_))
          go_roundw
          case rel =>
            exact ⟨k + 1, by omega, by go_num, by rw [HN.out]; exact ⟨hqf, setRow_heap _ _ _ _ _ _ hw2.2⟩, (setRow_other _ _ _ _ (by omega)).trans hz2, hO2.setRow (by omega) _, below_setRow hbb (Nat.le_refl _) _⟩
          case measure => simp [intOf]; omega
        · obtain rfl : k = 8 := by omega
          clear hlk hk
          go_wp2_with fail
          go_roundw
          case rel => exact ⟨i + 1, by omega, by go_num, hw, hz, hO, hb⟩
          case measure => simp [intOf]; omega
    · obtain rfl : i = 10 := by omega
      clear hlt hi
      have hsz : (Try.prog.info? 23).map (·.size) = some (ws (dn l 10)).size := by rw [ws_size, hw.1.1]; rfl
      go_wp2_with (first | (refine wpList_load_row rfl 23 (.tmp 1) rfl w.heap.size rfl 23 _ (0, 0) _ hw.2 Try.underlying23 rfl hsz ?_) | (refine wpList_store_row rfl 23 (.tmp 2) (.tmp 43) rfl (w.heap.size + 1) (ws (dn l 10)) rfl rfl 23 zs hz hsz (by rw [ws_size, hw.1.1]; rfl) (ws_one _) ?_))
      refine bodyPost_ret (results_cell_row rfl _ _ (w.heap.size + 1) 23 (ws (dn l 10)) (0, 0) _ rfl (setRow_heap _ _ _ _ _ _ hz) Try.underlying23 rfl hsz) rfl ?_
      exact ⟨rfl, below_setRow hb (by omega) _⟩
end Go.Proofs.Ytpojbjldboknmaa.Ro
