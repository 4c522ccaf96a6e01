/-
  The walks of Inv, Interpolate and Same, and of the document's examples.
-/
import Derived.Test.YtgijeelednmmkaaWd
namespace Go.Proofs.Ytgijeelednmmkaa.We
open Go.RowKit Go.Proofs.Ytgijeelednmmkaa.M Go.Proofs.Ytgijeelednmmkaa.B Go.Proofs.Ytgijeelednmmkaa.Wa Go.Proofs.Ytgijeelednmmkaa.Wb Go.Proofs.Ytgijeelednmmkaa.Wc Go.Proofs.Ytgijeelednmmkaa.Wd Go.Proofs.YtgijeelednmmkaaW.PrintWords

theorem inv_walk (a : Nat) (w : World) (ha : a < 256) :
    Calls Try.prog 9 #[.int .u8 (a : Int)] w fun e w' => e = .returned (.tuple #[.int .u8 (dvs 1 a : Nat), .int .i64 (dve a)]) ∧ Below w.heap.size w w' := by
  go_enter Try.func9, Try.ntmps9
  go_wp2_with (first | (go_at_call 11; refine (div_walk 1 a _ (by omega) ha).mono ?_; rintro e w1 ⟨rfl, hb1⟩))
  go_ret2
  exact ⟨rfl, hb1⟩

/-- The sum of the products of weights and values. -/
def sumTo (ws ys : List Int) : Nat → Nat
  | 0 => 0
  | k + 1 => sumTo ws ys k ^^^ mul (nb ws k) (nb ys k)
theorem wts_bytes (l : List Int) (x : Nat) : Bytes (wts l x) := by
  intro y hy
  obtain ⟨j, _, rfl⟩ := List.mem_map.1 hy
  have := dvs_lt (prodTo l j x l.length) (prodTo l j (nb l j) l.length) (prodTo_lt _ _ _ _)
  unfold wt
  omega
theorem sumTo_lt (ws ys : List Int) (hw : Bytes ws) : ∀ k, sumTo ws ys k < 256
  | 0 => by unfold sumTo; omega
  | k + 1 => by
    unfold sumTo
    exact xor_lt _ _ (sumTo_lt ws ys hw k) (mul_lt _ _ (nb_lt hw k))

set_option maxHeartbeats 1000000 in
theorem interpolate_walk (A0 : Option Addr) (c0 : Nat) (xs : List Int) (A1 : Option Addr) (c1 : Nat) (ys : List Int) (x : Nat) (w : World) (hr0 : Kd.C (Kd.int .u8) w A0 xs.length xs) (hr1 : Kd.C (Kd.int .u8) w A1 ys.length ys) (hb0 : Bytes xs) (hb1 : Bytes ys) (hx : x < 256) (hd : dist xs = true) (hl : xs.length = ys.length) :
    Calls Try.prog 19 #[.slice A0 xs.length c0, .slice A1 ys.length c1, .int .u8 (x : Int)] w fun e w' => e = .returned (.tuple #[.int .u8 (sumTo (wts xs x) ys ys.length : Nat), .int .i64 0]) ∧ Below w.heap.size w w' := by
  have hlen : xs.length ≤ 255 := by simp [dist] at hd; omega
  have hlen1 : ys.length ≤ 255 := by omega
  have hne : ((xs.length : Int) != (ys.length : Int)) = false := by simp; omega
  have hwl : (wts xs x).length = xs.length := by simp [wts]
  have HL := Lib.hid hl
  have HW := Lib.hid hwl
  clear hl hwl
  go_enter Try.func19, Try.ntmps19
  go_wp2_with (first | (go_at_call 17; refine (weights_walk A0 c0 xs x _ hr0 hb0 hx hd).mono ?_; rintro e w1 ⟨v0, rfl, hR, hbel⟩))
  obtain ⟨A2, c2, hv, _, hC⟩ := Kd.R_reads hR
  rw [HW.out] at hv
  have hbw := wts_bytes xs x
  subst hv
  go_loop [10, 30] (fun v10 v30 => ∃ k : Nat, k ≤ ys.length ∧ v30 = .int .i64 (k : Int) ∧ v10 = .int .u8 (sumTo (wts xs x) ys k : Nat)) (fun _ v30 => ys.length - (intOf v30).toNat)
  case atStart => exact ⟨0, Nat.zero_le _, rfl, rfl⟩
  case round =>
    obtain ⟨k, hk, rfl, rfl⟩ := hrel
    by_cases hlt : k < ys.length
    · have hlx : k < xs.length := by have := HL.out; omega
      obtain ⟨ad1, e1, hy0⟩ := Kd.at_int (Kd.C_below hr1 hbel) (k : Int) (by omega) (by omega)
      obtain ⟨ad2, e2, hw0⟩ := Kd.at_int hC (k : Int) (by omega) (by have := HW.out; omega)
      subst e1; subst e2
      rw [nb_rd hb1] at hy0
      rw [nb_rd hbw] at hw0
      simp only [Int.toNat_natCast] at hy0 hw0
      have hny := nb_lt hb1 k
      have hnw := nb_lt hbw k
      have hs := sumTo_lt (wts xs x) ys hbw k
      have HX : Go.bits .xor .u8 (sumTo (wts xs x) ys k : Int) (mul (nb (wts xs x) k) (nb ys k) : Int) = ((sumTo (wts xs x) ys k ^^^ mul (nb (wts xs x) k) (nb ys k) : Nat) : Int) := u8_xor_nat _ _ hs (mul_lt _ _ hnw)
      go_wp2_with (first | (go_at_call 14; refine (mul_walk _ _ _ hnw hny).mono ?_; rintro e w' ⟨rfl, rfl⟩))
      go_round
      case rel => exact ⟨k + 1, by omega, by go_num, rfl⟩
      case measure => simp [intOf]; omega
    · obtain rfl : k = ys.length := by omega
      go_wp2
      go_ret2
      exact ⟨rfl, hbel⟩
theorem interpolate_none (A0 : Option Addr) (c0 : Nat) (xs : List Int) (A1 : Option Addr) (c1 : Nat) (ys : List Int) (x : Nat) (w : World) (hr0 : Kd.C (Kd.int .u8) w A0 xs.length xs) (hb0 : Bytes xs) (hx : x < 256) (_hm : xs.length ≤ 9223372036854775807) (_hm1 : ys.length ≤ 9223372036854775807) (hd : ¬ (dist xs = true ∧ xs.length = ys.length)) :
    Calls Try.prog 19 #[.slice A0 xs.length c0, .slice A1 ys.length c1, .int .u8 (x : Int)] w fun e w' => e = .returned (.tuple #[.int .u8 0, .int .i64 1]) ∧ Below w.heap.size w w' := by
  cases hq : dist xs with
  | false =>
    clear hd
    go_enter Try.func19, Try.ntmps19
    go_wp2_with (first | (go_at_call 17; refine (weights_none A0 c0 xs x _ hr0 hb0 hq).mono ?_; rintro e w1 ⟨v0, rfl, hR, hbel⟩))
    go_ret2
    exact ⟨rfl, hbel⟩
  | true =>
    have hne : ((xs.length : Int) != (ys.length : Int)) = true := by
      have : xs.length ≠ ys.length := fun h => hd ⟨hq, h⟩
      simp; omega
    clear hd
    go_enter Try.func19, Try.ntmps19
    go_wp2_with (first | (go_at_call 17; refine (weights_walk A0 c0 xs x _ hr0 hb0 hx hq).mono ?_; rintro e w1 ⟨v0, rfl, hR, hbel⟩))
    go_ret2
    exact ⟨rfl, hbel⟩
theorem same_walk (A0 : Option Addr) (c0 : Nat) (l0 : List Int) (A1 : Option Addr) (c1 : Nat) (l1 : List Int) (w : World) (hr0 : Kd.C (Kd.int .u8) w A0 l0.length l0) (hr1 : Kd.C (Kd.int .u8) w A1 l1.length l1) :
    Calls Try.prog 25 #[.slice A0 l0.length c0, .slice A1 l1.length c1] w fun e w' => e = .returned (.bool ((strOfNums l0).toList == (strOfNums l1).toList)) ∧ w = w' := by
  have hcv3 := Kd.C_string (P := Try.prog) (A := A0) (c := c0) Try.underlying30 Try.underlying5 Try.underlying9 hr0
  have hcv4 := Kd.C_string (P := Try.prog) (A := A1) (c := c1) Try.underlying30 Try.underlying5 Try.underlying9 hr1
  go_enter Try.func25, Try.ntmps25
  go_wp2
  go_ret
  exact ⟨rfl, rfl⟩

theorem C_of_cells {w : World} {g : Nat} {l : List Int} (h : Blk w g 5 (cellsOf l)) (hl : l.length ≤ 1000) : Kd.C (Kd.int .u8) w (some ⟨g, 0, none⟩) l.length l := by
  refine ⟨rfl, by omega, fun _ => ⟨_, rfl, fun j p hj => ⟨[.int .u8 p], rfl, rfl, fun i u hu => ?_⟩⟩⟩
  have hi : i = 0 := by
    rcases Nat.eq_zero_or_pos i with h0 | h0
    · exact h0
    · rw [List.getElem?_eq_none (by simp; omega)] at hu; cases hu
  subst hi
  have hu' : Value.int .u8 p = u := by simpa using hu
  subst hu'
  rw [show (Kd.int .u8).sz = 1 from rfl, Nat.mul_one, Nat.add_zero, add_plain, h.cell j]
  simp [cellsOf, hj]
theorem C_two (w : World) (a b : Int) : Kd.C (Kd.int .u8) (w.alloc (.cells #[.int .u8 a, .int .u8 b] 5)) (some ⟨w.heap.size, 0, none⟩) [a, b].length [a, b] := C_of_cells (Blk.new w 5 (cellsOf [a, b])) (by simp)
theorem below_one (w : World) (o : Obj) : Below w.heap.size w (w.alloc o) := (Below.refl _ _).alloc (Nat.le_refl _) o

theorem C_first (w : World) (a b c d : Int) : Kd.C (Kd.int .u8) ((w.alloc (.cells #[.int .u8 a, .int .u8 b] 5)).alloc (.cells #[.int .u8 c, .int .u8 d] 5)) (some ⟨w.heap.size, 0, none⟩) [a, b].length [a, b] := Kd.C_below (C_two w a b) (below_one _ _)
theorem C_second (w : World) (a b c d : Int) : Kd.C (Kd.int .u8) ((w.alloc (.cells #[.int .u8 a, .int .u8 b] 5)).alloc (.cells #[.int .u8 c, .int .u8 d] 5)) (some ⟨w.heap.size + 1, 0, none⟩) [c, d].length [c, d] := by
  have h := C_two (w.alloc (.cells #[.int .u8 a, .int .u8 b] 5)) c d
  rw [heap_two] at h
  exact h

set_option maxHeartbeats 4000000 in
set_option maxRecDepth 100000 in
theorem sanity_walk (w : World) : Calls Try.prog 13 #[] w fun e w' => e = .returned (.bool true) ∧ Below w.heap.size w w' := by
  go_enter Try.func13, Try.ntmps13
  go_wp2_with fail
  go_at_call 9
  refine (inv_walk 2 _ (by omega)).mono ?_
  rintro e w1 ⟨rfl, b1⟩
  rw [show dvs 1 2 = 142 by decide +kernel, show dve 2 = 0 by decide +kernel]
  go_wp2_with fail
  go_at_call 9
  refine (inv_walk 0 _ (by omega)).mono ?_
  rintro e w2 ⟨rfl, b2⟩
  rw [show dvs 1 0 = 0 by decide +kernel, show dve 0 = 1 by decide +kernel]
  go_wp2_with fail
  go_at_call 11
  refine (div_walk 1 2 _ (by omega) (by omega)).mono ?_
  rintro e w3 ⟨rfl, b3⟩
  rw [show dvs 1 2 = 142 by decide +kernel, show dve 2 = 0 by decide +kernel]
  go_wp2_with fail
  go_at_call 17
  refine (weights_walk _ 2 [1, 2] 0 _ (C_two w3 1 2) (by decide +kernel) (by omega) (by decide +kernel)).mono ?_
  rintro e w4 ⟨v4, rfl, r4, b4⟩
  obtain ⟨A4, k4, hv4, _, hC4⟩ := Kd.R_reads r4
  rw [show wts [1, 2] 0 = [245, 244] by decide +kernel] at hv4 hC4
  subst hv4
  go_wp2_with fail
  go_at_call 19
  refine (interpolate_walk _ 2 [1, 2] _ 2 [6, 3] 0 _ (C_first w4 1 2 6 3) (C_second w4 1 2 6 3) (by decide +kernel) (by decide +kernel) (by omega) (by decide +kernel) rfl).mono ?_
  rintro e w5 ⟨rfl, b5⟩
  rw [show sumTo (wts [1, 2] 0) [6, 3] ([6, 3] : List Int).length = 5 by decide +kernel]
  go_wp2_with fail
  go_at_call 21
  refine (coefficients_walk _ 2 [1, 2] _ 2 [6, 3] _ (C_first w5 1 2 6 3) (C_second w5 1 2 6 3) (by decide +kernel) (by decide +kernel) (by decide +kernel) rfl).mono ?_
  rintro e w6 ⟨v6, rfl, r6, b6⟩
  obtain ⟨A6, k6, hv6, _, hC6⟩ := Kd.R_reads r6
  rw [show coef [1, 2] [6, 3] = [5, 3] by decide +kernel] at hv6 hC6
  subst hv6
  go_wp2_with fail
  go_at_call 19
  refine (interpolate_none _ 2 [1, 1] _ 2 [0, 0] 0 _ (C_first w6 1 1 0 0) (by decide +kernel) (by omega) (by simp) (by simp) (by decide +kernel)).mono ?_
  rintro e w7 ⟨rfl, b7⟩
  go_wp2_with fail
  go_at_call 14
  refine (mul_walk 2 128 _ (by omega) (by omega)).mono ?_
  rintro e w' ⟨rfl, rfl⟩
  rw [show mul 2 128 = 29 by decide +kernel]
  go_wp2_with fail
  refine (eval_walk _ 2 [5, 3] 2 _ (C_two w7 5 3) (by decide +kernel) (by omega)).mono ?_
  rintro e w8 ⟨rfl, d8⟩
  have b8 := d8.below
  rw [show ev 2 [5, 3] = 3 by decide +kernel]
  have bb5 : Below w4.heap.size w4 w5 := below_next (below_next (below_one w4 _) (below_one _ _)) b5
  have bb6 : Below w5.heap.size w5 w6 := below_next (below_next (below_one w5 _) (below_one _ _)) b6
  have bb7 : Below w6.heap.size w6 w7 := below_next (below_next (below_one w6 _) (below_one _ _)) b7
  have bb8 : Below w7.heap.size w7 w8 := below_next (below_one w7 _) b8
  have hD4 := Kd.C_below hC4 (below_next (below_next (below_next (below_next bb5 bb6) bb7) bb8) (below_one w8 (.cells #[.int .u8 245, .int .u8 244] 5)))
  have hD6 := Kd.C_below hC6 (below_next (below_next (below_next bb7 bb8) (below_one w8 (.cells #[.int .u8 245, .int .u8 244] 5))) (below_one (w8.alloc (.cells #[.int .u8 245, .int .u8 244] 5)) (.cells #[.int .u8 5, .int .u8 3] 5)))
  have hall : Below w.heap.size w w8 := below_next (below_next (below_next (below_next (below_next (below_next (below_next b1 b2) b3) (below_next (below_one w3 _) b4)) bb5) bb6) bb7) bb8
  clear b1 b2 b3 b4 b5 b6 b7 b8 bb5 bb6 bb7 bb8 d8 hC4 hC6 r4 r6
  go_wp2_with fail
  refine (same_walk _ k4 [245, 244] _ 2 [245, 244] _ hD4 (C_two w8 245 244)).mono ?_
  rintro e w' ⟨rfl, rfl⟩
  rw [show ((strOfNums [245, 244]).toList == (strOfNums [245, 244]).toList) = true by decide +kernel]
  go_wp2_with fail
  refine (same_walk _ k6 [5, 3] _ 2 [5, 3] _ hD6 (C_second w8 245 244 5 3)).mono ?_
  rintro e w' ⟨rfl, rfl⟩
  rw [show ((strOfNums [5, 3]).toList == (strOfNums [5, 3]).toList) = true by decide +kernel]
  go_wp2_with fail
  go_ret
  exact ⟨rfl, below_next (below_next hall (below_one _ _)) (below_one _ _)⟩

/-! In the print's form. -/
def fInv (a : Int) : Option (Int × Int) := if 0 ≤ a ∧ a ≤ 255 then some (((dvs 1 a.toNat : Nat) : Int), dve a.toNat) else none
def fInterpolate (l0 l1 : List Int) (x : Int) : Option (Int × Int) := if (Bytes l0 ∧ Bytes l1) ∧ (0 ≤ x ∧ x ≤ 255) then some (if dist l0 = true ∧ l0.length = l1.length then (((sumTo (wts l0 x.toNat) l1 l1.length : Nat) : Int), 0) else (0, 1)) else none
theorem inv_calls (a0 r1 r2 : Int) (w : World) (h : fInv a0 = some (r1, r2)) :
    Calls Try.prog 9 #[.int .u8 a0] w fun e w' => e = .returned (.tuple #[.int .u8 r1, .int .i64 r2]) ∧ Below w.heap.size w w' := by
  unfold fInv at h
  split at h
  · rename_i hc
    obtain ⟨a, rfl, ha, _⟩ := to_nat hc
    obtain ⟨rfl, rfl⟩ := Prod.mk.inj (Option.some.inj h)
    exact inv_walk a w ha
  · cases h
theorem interpolate_calls (A0 : Option Addr) (c0 : Nat) (l0 : List Int) (A1 : Option Addr) (c1 : Nat) (l1 : List Int) (a2 : Int) (r1 r2 : Int) (w : World) (hr0 : Kd.C (Kd.int .u8) w A0 l0.length l0) (_hc0 : l0.length ≤ c0) (hr1 : Kd.C (Kd.int .u8) w A1 l1.length l1) (_hc1 : l1.length ≤ c1) (h : fInterpolate l0 l1 a2 = some (r1, r2)) :
    Calls Try.prog 19 #[.slice A0 l0.length c0, .slice A1 l1.length c1, .int .u8 a2] w fun e w' => e = .returned (.tuple #[.int .u8 r1, .int .i64 r2]) ∧ Below w.heap.size w w' := by
  unfold fInterpolate at h
  split at h
  · rename_i hc
    obtain ⟨x, rfl, hx, _⟩ := to_nat hc.2
    have h2 := Option.some.inj h
    by_cases hd : dist l0 = true ∧ l0.length = l1.length
    · rw [if_pos hd] at h2
      obtain ⟨rfl, rfl⟩ := Prod.mk.inj h2
      exact interpolate_walk A0 c0 l0 A1 c1 l1 x w hr0 hr1 hc.1.1 hc.1.2 hx hd.1 hd.2
    · rw [if_neg hd] at h2
      obtain ⟨rfl, rfl⟩ := Prod.mk.inj h2
      exact interpolate_none A0 c0 l0 A1 c1 l1 x w hr0 hc.1.1 hx hr0.2.1 hr1.2.1 hd
  · cases h
end Go.Proofs.Ytgijeelednmmkaa.We
