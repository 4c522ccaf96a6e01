/-
  The walk of the law FieldWeights.
-/
import Derived.Test.YtgijeelednmmkaaWe
import Derived.Test.YtgijeelednmmkaaGw
import Derived.Test.YtgijeelednmmkaaGf
namespace Go.Proofs.Ytgijeelednmmkaa.Wf
open Go.RowKit Go.Proofs.Ytgijeelednmmkaa.M Go.Proofs.Ytgijeelednmmkaa.B Go.Proofs.Ytgijeelednmmkaa.Wa Go.Proofs.Ytgijeelednmmkaa.Wb Go.Proofs.Ytgijeelednmmkaa.Wc Go.Proofs.Ytgijeelednmmkaa.Wd Go.Proofs.Ytgijeelednmmkaa.We Go.Proofs.Ytgijeelednmmkaa.G Go.Proofs.Ytgijeelednmmkaa.Gp Go.Proofs.Ytgijeelednmmkaa.Gl Go.Proofs.Ytgijeelednmmkaa.Gw Go.Proofs.YtgijeelednmmkaaW.PrintWords

theorem few_walk (A B : Option Addr) (n m c d : Nat) (w : World) (hn : n ≤ 9223372036854775807) (hm : m ≤ 9223372036854775807) :
    Calls Try.prog 16 #[.slice A n c, .slice B m d] w fun e w' => e = .returned (.bool (decide (n ≤ 40) && decide (m ≤ 40))) ∧ w = w' := by
  by_cases h : n ≤ 40
  · go_enter Try.func16, Try.ntmps16
    go_wp2
    go_ret
    exact ⟨ret_bool (by rw [decide_eq_true h]; simp; omega), rfl⟩
  · go_enter Try.func16, Try.ntmps16
    go_wp2
    go_ret
    exact ⟨ret_bool (by simp), rfl⟩

/-- Too many elements, or not different ones. -/
theorem weights_law_none (A0 : Option Addr) (c0 : Nat) (l : List Int) (x : Nat) (k : Int) (w : World) (hr : Kd.C (Kd.int .u8) w A0 l.length l) (hb : Bytes l) (hx : x < 256) (h : ¬ (l.length ≤ 40 ∧ dist l = true)) :
    Calls Try.prog 7 #[.slice A0 l.length c0, .int .u8 (x : Int), .int .i64 k] w fun e w' => e = .returned (.bool true) ∧ Below w.heap.size w w' := by
  have hlen : l.length ≤ 9223372036854775807 := hr.2.1
  cases hd : dist l with
  | false =>
    have H := Lib.hid h
    clear h
    by_cases hf : l.length ≤ 40
    · have hfe : (decide (l.length ≤ 40) && decide (0 ≤ 40)) = true := by simp [hf]
      have HF := Lib.hid hfe
      clear hfe
      go_enter Try.func7, Try.ntmps7
      go_wp2_with fail
      go_at_call 16
      refine (few_walk _ _ _ _ _ _ _ hlen (by omega)).mono ?_
      rintro e w' ⟨rfl, rfl⟩
      rw [HF.out]
      go_wp2_with fail
      go_at_call 17
      refine (weights_none A0 c0 l x _ hr hb hd).mono ?_
      rintro e w1 ⟨v0, rfl, hR, hb1⟩
      go_wp2_with fail
      go_at_call 13
      refine (sanity_walk _).mono ?_
      rintro e w2 ⟨rfl, hb2⟩
      go_wp2
      go_ret
      exact ⟨rfl, below_next hb1 hb2⟩
    · have hfe : (decide (l.length ≤ 40) && decide (0 ≤ 40)) = false := by simp [hf]
      have HF := Lib.hid hfe
      clear hfe
      go_enter Try.func7, Try.ntmps7
      go_wp2_with fail
      go_at_call 16
      refine (few_walk _ _ _ _ _ _ _ hlen (by omega)).mono ?_
      rintro e w' ⟨rfl, rfl⟩
      rw [HF.out]
      go_wp2_with fail
      go_at_call 17
      refine (weights_none A0 c0 l x _ hr hb hd).mono ?_
      rintro e w1 ⟨v0, rfl, hR, hb1⟩
      go_wp2_with fail
      go_at_call 13
      refine (sanity_walk _).mono ?_
      rintro e w2 ⟨rfl, hb2⟩
      go_wp2
      go_ret
      exact ⟨rfl, below_next hb1 hb2⟩
  | true =>
    have hf : ¬ l.length ≤ 40 := fun hf => h ⟨hf, hd⟩
    have hfe : (decide (l.length ≤ 40) && decide (0 ≤ 40)) = false := by simp [hf]
    have HF := Lib.hid hfe
    clear hfe h
    go_enter Try.func7, Try.ntmps7
    go_wp2_with fail
    go_at_call 16
    refine (few_walk _ _ _ _ _ _ _ hlen (by omega)).mono ?_
    rintro e w' ⟨rfl, rfl⟩
    rw [HF.out]
    go_wp2_with fail
    go_at_call 17
    refine (weights_walk A0 c0 l x _ hr hb hx hd).mono ?_
    rintro e w1 ⟨v0, rfl, hR, hb1⟩
    go_wp2_with fail
    go_at_call 13
    refine (sanity_walk _).mono ?_
    rintro e w2 ⟨rfl, hb2⟩
    go_wp2
    go_ret
    exact ⟨rfl, below_next hb1 hb2⟩

/-- k is no index. -/
theorem weights_law_out (A0 : Option Addr) (c0 : Nat) (l : List Int) (x : Nat) (k : Int) (w : World) (hr : Kd.C (Kd.int .u8) w A0 l.length l) (hb : Bytes l) (hx : x < 256) (hf : l.length ≤ 40) (hd : dist l = true) (hk : k < 0 ∨ (l.length : Int) ≤ k) :
    Calls Try.prog 7 #[.slice A0 l.length c0, .int .u8 (x : Int), .int .i64 k] w fun e w' => e = .returned (.bool true) ∧ Below w.heap.size w w' := by
  have hlen : l.length ≤ 9223372036854775807 := hr.2.1
  have hfe : (decide (l.length ≤ 40) && decide (0 ≤ 40)) = true := by simp [hf]
  have HF := Lib.hid hfe
  have hwl : (wts l x).length = l.length := by simp [wts]
  have HW := Lib.hid hwl
  clear hfe hwl
  rcases hk with hk | hk
  all_goals
    go_enter Try.func7, Try.ntmps7
    go_wp2_with fail
    go_at_call 16
    refine (few_walk _ _ _ _ _ _ _ hlen (by omega)).mono ?_
    rintro e w' ⟨rfl, rfl⟩
    rw [HF.out]
    go_wp2_with fail
    go_at_call 17
    refine (weights_walk A0 c0 l x _ hr hb hx hd).mono ?_
    rintro e w1 ⟨v0, rfl, hR, hb1⟩
    obtain ⟨A2, c2, hv, _, hC⟩ := Kd.R_reads hR
    rw [HW.out] at hv
    subst hv
    go_wp2_with (first | (go_at_call 13; refine (sanity_walk _).mono ?_; rintro e w2 ⟨rfl, hb2⟩))
    go_ret
    exact ⟨rfl, below_next hb1 hb2⟩

theorem slice_from (ad : Addr) (n c k : Nat) (hk : k < c) (hkn : k ≤ n) : ∀ W : World, (Instr.slice 30 (.slice (some ad) n c) (some (.int .i64 (k : Int))) none none).run Try.prog W = .ok (.slice (some (ad.add k)) (n - k) (c - k)) W := by
  obtain ⟨i5, hi5, hz5⟩ := Option.map_eq_some_iff.1 info5
  simp only [Prod.mk.injEq] at hz5
  intro W
  have h := cut_from (P := Try.prog) 30 5 .i64 Try.underlying30 hi5 1 hz5.2.1 (some ad) n c (k : Int) (by omega) (by omega) W
  rw [h, Int.toNat_natCast, if_neg (by omega)]
  simp
theorem slice_upto (ad : Addr) (n c k : Nat) (hk : k ≤ n) (hc : n ≤ c) : ∀ W : World, (Instr.slice 30 (.slice (some ad) n c) none (some (.int .i64 (k : Int))) none).run Try.prog W = .ok (.slice (some ad) k c) W := by
  obtain ⟨i5, hi5, _⟩ := Option.map_eq_some_iff.1 info5
  intro W
  have h := cut_to (P := Try.prog) 30 5 .i64 Try.underlying30 hi5 (some ad) n c (k : Int) (by omega) (by omega) hc W
  rwa [Int.toNat_natCast] at h

set_option maxHeartbeats 4000000 in
set_option maxRecDepth 100000 in
/-- k is an index. -/
theorem weights_law_in (A0 : Option Addr) (c0 : Nat) (l : List Int) (x k : Nat) (w : World) (hr : Kd.C (Kd.int .u8) w A0 l.length l) (hc0 : l.length ≤ c0) (hb : Bytes l) (hx : x < 256) (hf : l.length ≤ 40) (hd : dist l = true) (hk : k < l.length) :
    Calls Try.prog 7 #[.slice A0 l.length c0, .int .u8 (x : Int), .int .i64 (k : Int)] w fun e w' => e = .returned (.bool true) ∧ Below w.heap.size w w' := by
  have hlen : l.length ≤ 9223372036854775807 := hr.2.1
  have hnd : l.Nodup := by simp [dist] at hd; exact hd.1.1
  have HF := Lib.hid (show (decide (l.length ≤ 40) && decide (0 ≤ 40)) = true by simp [hf])
  have HW := Lib.hid (show (wts l x).length = l.length by simp [wts])
  have HW2 := Lib.hid (show (wts l (nb l k)).length = l.length by simp [wts])
  have hxk := nb_lt hb k
  obtain ⟨ad0, e0, hcell⟩ := Kd.at_int hr (k : Int) (by omega) (by omega)
  subst e0
  rw [nb_rd hb] at hcell
  simp only [Int.toNat_natCast] at hcell
  go_enter Try.func7, Try.ntmps7
  go_wp2_with fail
  go_at_call 16
  refine (few_walk _ _ _ _ _ _ _ hlen (by omega)).mono ?_
  rintro e w' ⟨rfl, rfl⟩
  rw [HF.out]
  go_wp2_with fail
  go_at_call 17
  refine (weights_walk _ c0 l x _ hr hb hx hd).mono ?_
  rintro e w1 ⟨v0, rfl, hR, hb1⟩
  obtain ⟨A2, c2, hv, _, hC⟩ := Kd.R_reads hR
  rw [HW.out] at hv
  subst hv
  have hcell1 : w1.cell? (ad0.add k) = some (.int .u8 (nb l k : Nat)) := pw_cell_below hb1 hcell
  have hbw := wts_bytes l x
  have hml := sm_lt (f := wt l x) (fun j => dvs_lt _ _ (prodTo_lt _ _ _ _))
  clear hR
  go_wp2_with fail
  go_loop [10, 11] (fun v10 v11 => ∃ j : Nat, j ≤ l.length ∧ v11 = .int .i64 (j : Int) ∧ v10 = .int .u8 (sm (wt l x) j : Nat)) (fun _ v11 => l.length - (intOf v11).toNat)
  case atStart => exact ⟨0, Nat.zero_le _, rfl, rfl⟩
  case round =>
    obtain ⟨j, hj, rfl, rfl⟩ := hrel
    by_cases hlt : j < l.length
    · obtain ⟨ad2, e2, hw0⟩ := Kd.at_int hC (j : Int) (by omega) (by have := HW.out; omega)
      subst e2
      rw [nb_rd hbw, wts_nb l x j hlt] at hw0
      simp only [Int.toNat_natCast] at hw0
      have hs := hml j
      have HX : Go.bits .xor .u8 (sm (wt l x) j : Int) (wt l x j : Int) = ((sm (wt l x) j ^^^ wt l x j : Nat) : Int) := u8_xor_nat _ _ hs (dvs_lt _ _ (prodTo_lt _ _ _ _))
      go_wp2
      go_round
      case rel => exact ⟨j + 1, by omega, by go_num, rfl⟩
      case measure => simp [intOf]; omega
    · obtain rfl : j = l.length := by omega
      rw [weights_sum l hb hd x hx]
      clear hlt hj hml
      go_wp2_with fail
      go_at_call 17
      refine (weights_walk _ c0 l (nb l k) _ (Kd.C_below hr hb1) hb hxk hd).mono ?_
      rintro e w2 ⟨v3, rfl, hR3, hb2⟩
      obtain ⟨A3, c3, hv3, _, hC3⟩ := Kd.R_reads hR3
      rw [HW2.out] at hv3
      subst hv3
      have hbw3 := wts_bytes l (nb l k)
      clear hR3
      go_wp2_with fail
      go_loop [14] (fun v14 => ∃ j : Nat, j ≤ l.length ∧ v14 = .int .i64 (j : Int)) (fun v14 => l.length - (intOf v14).toNat)
      case atStart => exact ⟨0, Nat.zero_le _, rfl⟩
      case round =>
        obtain ⟨j, hj, rfl⟩ := hrel
        by_cases hlt : j < l.length
        · obtain ⟨ad3, e3, hw0⟩ := Kd.at_int hC3 (j : Int) (by omega) (by have := HW2.out; omega)
          subst e3
          rw [nb_rd hbw3, wts_nb l _ j hlt, wt_at l hb hnd k j hk hlt] at hw0
          simp only [Int.toNat_natCast] at hw0
          by_cases hjk : j = k
          · rw [if_pos hjk] at hw0
            have t1 : ((j : Int) == (k : Int)) = true := by simp; omega
            clear hjk
            go_wp2
            go_round
            case rel => exact ⟨j + 1, by omega, by go_num⟩
            case measure => simp [intOf]; omega
          · rw [if_neg hjk] at hw0
            have t1 : ((j : Int) == (k : Int)) = false := by simp; omega
            clear hjk
            go_wp2
            go_round
            case rel => exact ⟨j + 1, by omega, by go_num⟩
            case measure => simp [intOf]; omega
        · obtain rfl : j = l.length := by omega
          have hb12 := below_next hb1 hb2
          have hr2 := Kd.C_below hr hb12
          have hD : Kd.C (Kd.int .u8) w2 (some (ad0.add k)) (l.drop k).length (l.drop k) := by
            have h9 := Kd.C_drop (m := k) (c := c0) hr2 (by omega) hc0
            rw [if_neg (by omega)] at h9
            have e9 : Option.map (fun x => Addr.add x (k * (Kd.int .u8).sz)) (some ad0) = some (ad0.add k) := by show some (ad0.add (k * 1)) = _; rw [Nat.mul_one]
            exact e9 ▸ h9
          have hT : Kd.C (Kd.int .u8) w2 (some ad0) (l.take k).length (l.take k) := Kd.C_take hr2 (by omega)
          have hl1 : (l.drop k).length = l.length - k := List.length_drop
          have hl2 : (l.take k).length = k := by rw [List.length_take]; omega
          rw [hl1] at hD
          rw [hl2] at hT
          have hs1 := slice_from ad0 l.length c0 k (by omega) (by omega)
          have hs2 := slice_upto ad0 l.length c0 k (by omega) (by omega)
          have HL1 := Lib.hid hl1
          have HL2 := Lib.hid hl2
          clear hl1 hl2 hr2 hlt hj
          have hl0 : ([] ++ l.drop k ++ l.take k : List Int) = turned l k := by rw [List.nil_append]; rfl
          have HT1 := turned_bytes hb k
          have HT2 := turned_dist hd k hk
          have HT3 := Lib.hid (turned_length l k hk)
          have HW3 := Lib.hid (show (wts (turned l k) x).length = l.length by simp [wts, turned_length l k hk])
          go_wp2_with (first | (at_builtin; refine Kd.R_append_rows (Kd.int .u8) (w0 := w2) w2.heap.size rfl (.tmp 108) (.tmp 111) 30 5 (.int .u8 0) 1 rfl Try.underlying30 info5 rfl (by decide) (by decide) (.slice none 0 0) [] (l.drop k) _ _ _ (fun _ => True) (fun _ => False) rfl rfl (Kd.R_nil _ _ _ _ _) hD (fun _ _ h => h) (fun _ h => h.elim) (fun _ _ => trivial) (Below.refl _ _) (Nat.le_refl _) (by rw [List.length_nil]; omega) ?_; intro v4 w4 hR4 hB4 _ _) | (at_builtin; refine Kd.R_append_rows (Kd.int .u8) (w0 := w2) w2.heap.size rfl (.tmp 113) (.tmp 116) 30 5 (.int .u8 0) 1 rfl Try.underlying30 info5 rfl (by decide) (by decide) v4 _ (l.take k) _ _ _ (fun _ => True) (fun _ => False) rfl rfl hR4 (Kd.C_below hT hB4) (fun _ _ h => h) (fun _ h => h.elim) (fun _ _ => trivial) hB4 hB4.size (by rw [List.nil_append, HL1.out]; omega) ?_; intro v5 w5 hR5 hB5 _ _; rw [hl0] at hR5; obtain ⟨A5, c5, hv5, _, hC5⟩ := Kd.R_reads hR5; subst hv5))
          refine (weights_walk _ _ (turned l k) x _ hC5 HT1 hx HT2).mono ?_
          rintro e w6 ⟨v6, rfl, hR6, hb6⟩
          obtain ⟨A6, c6, hv6, _, hC6⟩ := Kd.R_reads hR6
          rw [HW3.out] at hv6
          subst hv6
          have hb126 : Below w.heap.size w w6 := below_next (below_next hb12 hB5) hb6
          have hC26 := Kd.C_below (Kd.C_below hC hb2) (below_next hB5 hb6)
          go_wp2_with fail
          refine Q.wp_pivot 0 (by kernel_rfl) (by kernel_rfl) rfl (fun K hK => ?_)
          simp only [List.take_zero]
          refine wpQuiet_nil ?_
          intro _ hw'
          obtain ⟨nq, rfl⟩ := hw'
          have hd6 : Below (w6.drewN nq).heap.size w6 (w6.drewN nq) := below_drewN (Below.refl _ _) nq
          go_wp2_with (first | (go_at_call 13; refine (sanity_walk _).mono ?_; rintro e w7 ⟨rfl, hb7⟩))
          have hC67 := Kd.C_below (Kd.C_below hC6 hd6) hb7
          have hC27 := Kd.C_below (Kd.C_below hC26 hd6) hb7
          obtain ⟨ad6, e6, hc6⟩ := Kd.at_int hC67 ((0 : Nat) : Int) (by omega) (by have := HW3.out; omega)
          obtain ⟨ad2, e2, hc2⟩ := Kd.at_int hC27 (k : Int) (by omega) (by have := HW.out; omega)
          subst e6; subst e2
          rw [nb_rd (wts_bytes (turned l k) x)] at hc6
          rw [nb_rd hbw] at hc2
          rw [wts_nb (turned l k) x 0 (by have := HT3.out; omega), turned_wt l hb k x hx hk] at hc6
          rw [wts_nb l x _ (by omega)] at hc2
          simp only [Int.toNat_natCast] at hc2 hc6
          have hc66 : w7.cell? ad6 = some (.int .u8 (wt l x k : Nat)) := hc6
          have hc67 : w7.cell? (ad6.add (Int.toNat 0)) = some (.int .u8 (wt l x k : Nat)) := hc6
          have hq : ((wt l x k : Int) == (wt l x k : Int)) = true := by simp
          have hwl := HW.out
          have hwl3 := HW3.out
          simp only [List.drop_succ_cons, List.drop_zero]

          repeat go_big_quiet_step (fail)
          refine wpQuiet_nil ?_
          intro _ hw'
          obtain ⟨nq2, rfl⟩ := hw'
          go_wp2
          go_ret
          exact ⟨rfl, below_drewN (below_next (below_drewN hb126 nq) hb7) nq2⟩

/-- The law's walk. -/
theorem weights_law (a0 : Option Addr) (len0 cap0 : Nat) (z0 : List Int) (a1 : Int) (a2 : Int) (w : World) (w0 : (a0 = none ∧ len0 = 0 ∧ cap0 = 0 ∧ z0 = []) ∨ ∃ x, a0 = some x ∧ len0 ≤ cap0 ∧ cap0 ≤ maxLen ∧ z0.length = cap0 ∧ (∀ i, i < z0.length → w.cell? (x.add i) = some (.int .u8 (z0.getD i 0))) ∧ ∀ n ∈ z0, (Lit.int .u8 n).wf = true) (w1 : (Lit.int .u8 a1).wf = true) :
    Calls Try.prog 7 #[.slice a0 len0 cap0, .int .u8 a1, .int .i64 a2] w fun e w' => e = .returned (.bool true) ∧ Below w.heap.size w w' := by
  obtain ⟨l0, rfl, hr0, hm0, hw0, hc0⟩ := ReadsInt.ofRowC w0
  have hr := Kd.C_of_reads (d := (0 : Int)) (h1 := fun _ => rfl) hr0
  have hb := Gf.bytes_of hw0
  obtain ⟨x, rfl, hx⟩ : ∃ x : Nat, a1 = (x : Int) ∧ x < 256 := ⟨a1.toNat, by have := Gf.byte_of w1; omega, by have := Gf.byte_of w1; omega⟩
  by_cases h : l0.length ≤ 40 ∧ dist l0 = true
  · by_cases hk : a2 < 0 ∨ (l0.length : Int) ≤ a2
    · exact weights_law_out _ _ _ _ _ _ hr hb hx h.1 h.2 hk
    · obtain ⟨k, rfl⟩ : ∃ k : Nat, a2 = (k : Int) := ⟨a2.toNat, by omega⟩
      exact weights_law_in _ _ _ _ _ _ hr hc0 hb hx h.1 h.2 (by omega)
  · exact weights_law_none _ _ _ _ _ _ hr hb hx h
end Go.Proofs.Ytgijeelednmmkaa.Wf
