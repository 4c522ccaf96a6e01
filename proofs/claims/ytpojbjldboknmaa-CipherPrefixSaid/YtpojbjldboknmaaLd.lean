/-
  The law of prefixes and differences, walked.
-/
import Derived.Test.YtpojbjldboknmaaLa
namespace Go.Proofs.Ytpojbjldboknmaa.Ld
open Go.RowKit Go.Proofs.Ytpojbjldboknmaa.B Go.Proofs.Ytpojbjldboknmaa.E Go.Proofs.Ytpojbjldboknmaa.Ra Go.Proofs.Ytpojbjldboknmaa.Qa Go.Proofs.Ytpojbjldboknmaa.Ro Go.Proofs.Ytpojbjldboknmaa.Sa Go.Proofs.Ytpojbjldboknmaa.Bk Go.Proofs.Ytpojbjldboknmaa.Xp Go.Proofs.Ytpojbjldboknmaa.Xa Go.Proofs.Ytpojbjldboknmaa.Xb Go.Proofs.Ytpojbjldboknmaa.Sy Go.Proofs.Ytpojbjldboknmaa.La Go.Proofs.YtpojbjldboknmaaW.PrintWords
set_option maxHeartbeats 4000000 in
set_option maxRecDepth 100000 in
theorem prefix_out (key nonce a b : ByteArray) (c n : Int) (w : World) (_ha : a.size ≤ 140737488351232) (_hb : b.size ≤ 140737488351232) (h : 2000 < a.size ∨ a.size ≠ b.size ∨ n < 0 ∨ (a.size : Int) < n) : Calls Try.prog 8 #[.string key, .int .u32 c, .string nonce, .string a, .string b, .int .i64 n] w fun e w' => e = .returned (.bool true) ∧ Below w.heap.size w w' := by
  by_cases h1 : 2000 < a.size
  · clear h
    go_enter Try.func8, Try.ntmps8
    go_wp2_with (first | (go_at_call 13; ((with_reducible refine (sanity_walk _).mono ?_); rintro e w1 ⟨rfl, hb1⟩)))
    go_ret
    exact ⟨rfl, hb1⟩
  · have d1 : decide (2000 < (a.size : Int)) = false := decide_eq_false (by omega)
    by_cases h2 : a.size = b.size
    · have e2 : ((a.size : Int) != (b.size : Int)) = false := by simp [h2]
      by_cases h3 : n < 0
      · have E2 := e2
        clear h h2
        go_enter Try.func8, Try.ntmps8
        go_wp2_with (first | (go_at_call 13; ((with_reducible refine (sanity_walk _).mono ?_); rintro e w1 ⟨rfl, hb1⟩)))
        go_ret
        exact ⟨rfl, hb1⟩
      · have d3 : decide (n < 0) = false := decide_eq_false h3
        have h4 : (a.size : Int) < n := by omega
        clear h h2
        go_enter Try.func8, Try.ntmps8
        go_wp2_with (first | (go_at_call 13; ((with_reducible refine (sanity_walk _).mono ?_); rintro e w1 ⟨rfl, hb1⟩)))
        go_ret
        exact ⟨rfl, hb1⟩
    · have e2 : ((a.size : Int) != (b.size : Int)) = true := by simp; omega
      clear h h2
      go_enter Try.func8, Try.ntmps8
      go_wp2_with (first | (go_at_call 13; ((with_reducible refine (sanity_walk _).mono ?_); rintro e w1 ⟨rfl, hb1⟩)))
      go_ret
      exact ⟨rfl, hb1⟩
set_option maxHeartbeats 4000000 in
set_option maxRecDepth 100000 in
theorem prefix_no (key nonce a b : ByteArray) (c n : Nat) (w : World) (h : a.size ≤ 2000) (hab : a.size = b.size) (hn : n ≤ a.size) (h1 : Tells 17 #[.string key, .int .u32 (c : Int), .string nonce, .string a] ⟨#[]⟩ 1) (h2 : Tells 17 #[.string key, .int .u32 (c : Int), .string nonce, .string b] ⟨#[]⟩ 1)
    (h3 : Tells 17 #[.string key, .int .u32 (c : Int), .string nonce, .string (a.extract 0 n)] ⟨#[]⟩ 1) :
    Calls Try.prog 8 #[.string key, .int .u32 (c : Int), .string nonce, .string a, .string b, .int .i64 (n : Int)] w fun e w' => e = .returned (.bool true) ∧ Below w.heap.size w w' := by
  have H1 := Lib.hid h1
  have H2 := Lib.hid h2
  have H3 := Lib.hid h3
  clear h1 h2 h3
  have hb : Below w.heap.size w w := Below.refl _ _
  have n1 : (n : Int) ≤ (a.size : Int) := by omega
  have d1 : decide (2000 < (a.size : Int)) = false := decide_eq_false (by omega)
  have e2 : ((a.size : Int) != (b.size : Int)) = false := by simp [hab]
  have d3 : decide ((n : Int) < 0) = false := decide_eq_false (by omega)
  have d4 : decide (a.size < n) = false := decide_eq_false (by omega)
  clear hab
  go_enter Try.func8, Try.ntmps8
  go_wp2_with (first
    | (go_at_call 13; ((with_reducible refine (sanity_walk _).mono ?_); rintro e w1 ⟨rfl, hb1⟩; replace hb := below_next hb hb1; clear hb1))
    | (go_at_call 17; ((with_reducible refine (H1.out _).mono ?_); rintro e w1 ⟨rfl, hb1⟩; replace hb := below_next hb hb1; clear hb1))
    | (go_at_call 17; ((with_reducible refine (H2.out _).mono ?_); rintro e w1 ⟨rfl, hb1⟩; replace hb := below_next hb hb1; clear hb1))
    | (go_at_call 17; ((with_reducible refine (H3.out _).mono ?_); rintro e w1 ⟨rfl, hb1⟩; replace hb := below_next hb hb1; clear hb1)))
  go_ret
  exact ⟨rfl, hb⟩
set_option maxHeartbeats 4000000 in
set_option maxRecDepth 100000 in
theorem prefix_in (key nonce a b X Y : ByteArray) (c n : Nat) (w : World) (h : a.size ≤ 2000) (hab : a.size = b.size) (hn : n ≤ a.size) (hX : X.size = a.size) (hY : Y.size = b.size) (hd : ∀ i, i < a.size → by8 X i ^^^ by8 Y i = by8 a i ^^^ by8 b i)
    (h1 : Tells 17 #[.string key, .int .u32 (c : Int), .string nonce, .string a] X 0) (h2 : Tells 17 #[.string key, .int .u32 (c : Int), .string nonce, .string b] Y 0) (h3 : Tells 17 #[.string key, .int .u32 (c : Int), .string nonce, .string (a.extract 0 n)] (X.extract 0 n) 0) :
    Calls Try.prog 8 #[.string key, .int .u32 (c : Int), .string nonce, .string a, .string b, .int .i64 (n : Int)] w fun e w' => e = .returned (.bool true) ∧ Below w.heap.size w w' := by
  have H1 := Lib.hid h1
  have H2 := Lib.hid h2
  have H3 := Lib.hid h3
  have HD := Lib.hid hd
  clear h1 h2 h3 hd
  have hb : Below w.heap.size w w := Below.refl _ _
  have n1 : (n : Int) ≤ (a.size : Int) := by omega
  have d1 : decide (2000 < (a.size : Int)) = false := decide_eq_false (by omega)
  have e2 : ((a.size : Int) != (b.size : Int)) = false := by simp [hab]
  have e3 : ((X.size : Int) != (a.size : Int)) = false := by simp [hX]
  have e4 : ((Y.size : Int) != (a.size : Int)) = false := by simp [hY, hab]
  have d3 : decide ((n : Int) < 0) = false := decide_eq_false (by omega)
  have d4 : decide (a.size < n) = false := decide_eq_false (by omega)
  have n2 : n ≤ X.size := by omega
  have HAB := Lib.hid hab
  have HX := Lib.hid hX
  have HY := Lib.hid hY
  clear hab hX hY
  go_enter Try.func8, Try.ntmps8
  go_wp2_with (first
    | (go_at_call 13; ((with_reducible refine (sanity_walk _).mono ?_); rintro e w1 ⟨rfl, hb1⟩; replace hb := below_next hb hb1; clear hb1))
    | (go_at_call 17; ((with_reducible refine (H1.out _).mono ?_); rintro e w1 ⟨rfl, hb1⟩; replace hb := below_next hb hb1; clear hb1))
    | (go_at_call 17; ((with_reducible refine (H2.out _).mono ?_); rintro e w1 ⟨rfl, hb1⟩; replace hb := below_next hb hb1; clear hb1))
    | (go_at_call 17; ((with_reducible refine (H3.out _).mono ?_); rintro e w1 ⟨rfl, hb1⟩; replace hb := below_next hb hb1; clear hb1)))
  go_loopw [19] (fun v19 wr => ∃ k : Nat, k ≤ a.size ∧ v19 = .int .i64 (k : Int) ∧ Below w.heap.size w wr) (fun v19 _ => a.size - (intOf v19).toNat)
  case atStart => exact ⟨0, Nat.zero_le _, rfl, hb⟩
  case round =>
    clear hb
    obtain ⟨k, hk, rfl, hb⟩ := hrel
    by_cases hlt : k < a.size
    · have zk : (k : Int) < (a.size : Int) := by omega
      have hX := HX.out
      have hY := HY.out
      have hab := HAB.out
      have i1 := index_by8 X k (by omega)
      have i2 := index_by8 Y k (by omega)
      have i3 := index_by8 a k (by omega)
      have i4 := index_by8 b k (by omega)
      have x1 := u8_xor_nat (by8 X k) (by8 Y k) (by8_lt _ _) (by8_lt _ _)
      have x2 := u8_xor_nat (by8 a k) (by8 b k) (by8_lt _ _) (by8_lt _ _)
      rw [HD.out k hlt] at x1
      clear hX hY hab
      generalize by8 X k = p1 at i1 x1
      generalize by8 Y k = p2 at i2 x1
      generalize by8 a k ^^^ by8 b k = v at x1 x2
      generalize by8 a k = p3 at i3 x2
      generalize by8 b k = p4 at i4 x2
      go_wp2
      go_quiet (fail)
      go_wp2
      go_roundw
      case rel => exact ⟨k + 1, by omega, by go_num, below_drewN hb _⟩
      case measure => simp [intOf]; omega
    · obtain rfl : k = a.size := by omega
      clear hlt hk
      go_wp2_with (first | (go_at_call 13; ((with_reducible refine (sanity_walk _).mono ?_); rintro e w1 ⟨rfl, hb1⟩; replace hb := below_next hb hb1; clear hb1)))
      go_ret
      exact ⟨rfl, hb⟩
theorem prefix_int (key nonce a b : ByteArray) (z n : Int) (w : World) (ha : a.size ≤ 140737488351232) (hb : b.size ≤ 140737488351232) (h : (Lit.int .u32 z).wf = true) : Calls Try.prog 8 #[.string key, .int .u32 z, .string nonce, .string a, .string b, .int .i64 n] w fun e w' => e = .returned (.bool true) ∧ Below w.heap.size w w' := by
  obtain ⟨c, rfl, hc⟩ := u32_nat h
  by_cases ho : 2000 < a.size ∨ a.size ≠ b.size ∨ n < 0 ∨ (a.size : Int) < n
  · exact prefix_out key nonce a b c n w ha hb ho
  · obtain ⟨m, rfl⟩ := Int.eq_ofNat_of_zero_le (show 0 ≤ n by omega)
    have hm : m ≤ a.size := by omega
    have h2 : a.size ≤ 2000 := by omega
    have hab : a.size = b.size := by omega
    by_cases hk : ok key nonce
    · have hx := xor_yes (a.extract 0 m) c hc hk (by simp; omega)
      rw [xs_take key nonce c a m hm] at hx
      exact prefix_in key nonce a b _ _ c m w h2 hab hm (xs_size _ _ _ _) (xs_size _ _ _ _) (fun i hi => xs_diff key nonce c a b i hi (by omega)) (xor_yes a c hc hk (by omega)) (xor_yes b c hc hk (by omega)) hx
    · exact prefix_no key nonce a b c m w h2 hab hm (xor_no a c hk) (xor_no b c hk) (xor_no _ _ hk)
end Go.Proofs.Ytpojbjldboknmaa.Ld
