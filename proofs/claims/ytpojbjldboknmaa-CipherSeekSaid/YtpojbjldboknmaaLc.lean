/-
  The laws of places in the stream, walked.
-/
import Derived.Test.YtpojbjldboknmaaLa
namespace Go.Proofs.Ytpojbjldboknmaa.Lc
open Go.RowKit Go.Proofs.Ytpojbjldboknmaa.B Go.Proofs.Ytpojbjldboknmaa.E Go.Proofs.Ytpojbjldboknmaa.Ra Go.Proofs.Ytpojbjldboknmaa.Qa Go.Proofs.Ytpojbjldboknmaa.Ro Go.Proofs.Ytpojbjldboknmaa.Sa Go.Proofs.Ytpojbjldboknmaa.Bk Go.Proofs.Ytpojbjldboknmaa.Xp Go.Proofs.Ytpojbjldboknmaa.Xa Go.Proofs.Ytpojbjldboknmaa.Xb Go.Proofs.Ytpojbjldboknmaa.Sy Go.Proofs.Ytpojbjldboknmaa.La Go.Proofs.YtpojbjldboknmaaW.PrintWords
set_option maxHeartbeats 4000000 in
set_option maxRecDepth 100000 in
theorem seek_out (key nonce text : ByteArray) (c n : Int) (w : World) (hn : text.size ≤ 140737488351232) (h : 2000 < text.size ∨ n < 0 ∨ (text.size : Int) / 64 < n) : Calls Try.prog 7 #[.string key, .int .u32 c, .string nonce, .string text, .int .i64 n] w fun e w' => e = .returned (.bool true) ∧ Below w.heap.size w w' := by
  by_cases h1 : 2000 < text.size
  · clear h
    go_enter Try.func7, Try.ntmps7
    go_wp2_with (first | (go_at_call 13; ((with_reducible refine (sanity_walk _).mono ?_); rintro e w1 ⟨rfl, hb1⟩)))
    go_ret
    exact ⟨rfl, hb1⟩
  · have d1 : decide (2000 < text.size) = false := decide_eq_false h1
    by_cases h2 : n < 0
    · clear h
      go_enter Try.func7, Try.ntmps7
      go_wp2_with (first | (go_at_call 13; ((with_reducible refine (sanity_walk _).mono ?_); rintro e w1 ⟨rfl, hb1⟩)))
      go_ret
      exact ⟨rfl, hb1⟩
    · have d2 : decide (n < 0) = false := decide_eq_false h2
      have h3 : (text.size : Int) / 64 < n := by omega
      clear h
      go_enter Try.func7, Try.ntmps7
      go_wp2_with (first | (go_at_call 13; ((with_reducible refine (sanity_walk _).mono ?_); rintro e w1 ⟨rfl, hb1⟩)))
      go_ret
      exact ⟨rfl, hb1⟩
set_option maxHeartbeats 4000000 in
set_option maxRecDepth 100000 in
theorem seek_in (key nonce text T : ByteArray) (c n : Nat) (w : World) (h : text.size ≤ 2000) (hn : 64 * n ≤ text.size) (hT : T.size = text.size) (h1 : Tells 17 #[.string key, .int .u32 (c : Int), .string nonce, .string text] T 0)
    (h2 : Tells 17 #[.string key, .int .u32 (((c : Int) + (n : Int)) % 4294967296), .string nonce, .string (text.extract (64 * n) text.size)] (T.extract (64 * n) text.size) 0) :
    Calls Try.prog 7 #[.string key, .int .u32 (c : Int), .string nonce, .string text, .int .i64 (n : Int)] w fun e w' => e = .returned (.bool true) ∧ Below w.heap.size w w' := by
  have H1 := Lib.hid h1
  have H2 := Lib.hid h2
  clear h1 h2
  have hb : Below w.heap.size w w := Below.refl _ _
  have n1 : (n : Int) ≤ (text.size : Int) / 64 := by omega
  have n2 : 0 ≤ (n : Int) := by omega
  have n3 : (n : Int) ≤ 31 := by omega
  have d1 : decide (2000 < (text.size : Int)) = false := decide_eq_false (by omega)
  have d2 : decide ((n : Int) < 0) = false := decide_eq_false (by omega)
  have d3 : decide ((text.size : Int) / 64 < (n : Int)) = false := decide_eq_false (by omega)
  go_enter Try.func7, Try.ntmps7
  go_wp2_with (first
    | (go_at_call 13; ((with_reducible refine (sanity_walk _).mono ?_); rintro e w1 ⟨rfl, hb1⟩; replace hb := below_next hb hb1; clear hb1))
    | (go_at_call 17; ((with_reducible refine (H1.out _).mono ?_); rintro e w1 ⟨rfl, hb1⟩; replace hb := below_next hb hb1; clear hb1))
    | (go_at_call 17; ((with_reducible refine (H2.out _).mono ?_); rintro e w1 ⟨rfl, hb1⟩; replace hb := below_next hb hb1; clear hb1)))
  go_ret
  exact ⟨by simp, hb⟩
set_option maxHeartbeats 4000000 in
set_option maxRecDepth 100000 in
theorem seek_no (key nonce text : ByteArray) (c n : Nat) (w : World) (h : text.size ≤ 2000) (hn : 64 * n ≤ text.size) (h1 : Tells 17 #[.string key, .int .u32 (c : Int), .string nonce, .string text] ⟨#[]⟩ 1)
    (h2 : Tells 17 #[.string key, .int .u32 (((c : Int) + (n : Int)) % 4294967296), .string nonce, .string (text.extract (64 * n) text.size)] ⟨#[]⟩ 1) :
    Calls Try.prog 7 #[.string key, .int .u32 (c : Int), .string nonce, .string text, .int .i64 (n : Int)] w fun e w' => e = .returned (.bool true) ∧ Below w.heap.size w w' := by
  have H1 := Lib.hid h1
  have H2 := Lib.hid h2
  clear h1 h2
  have hb : Below w.heap.size w w := Below.refl _ _
  have n1 : (n : Int) ≤ (text.size : Int) / 64 := by omega
  have n2 : 0 ≤ (n : Int) := by omega
  have n3 : (n : Int) ≤ 31 := by omega
  have d1 : decide (2000 < (text.size : Int)) = false := decide_eq_false (by omega)
  have d2 : decide ((n : Int) < 0) = false := decide_eq_false (by omega)
  have d3 : decide ((text.size : Int) / 64 < (n : Int)) = false := decide_eq_false (by omega)
  go_enter Try.func7, Try.ntmps7
  go_wp2_with (first
    | (go_at_call 13; ((with_reducible refine (sanity_walk _).mono ?_); rintro e w1 ⟨rfl, hb1⟩; replace hb := below_next hb hb1; clear hb1))
    | (go_at_call 17; ((with_reducible refine (H1.out _).mono ?_); rintro e w1 ⟨rfl, hb1⟩; replace hb := below_next hb hb1; clear hb1))
    | (go_at_call 17; ((with_reducible refine (H2.out _).mono ?_); rintro e w1 ⟨rfl, hb1⟩; replace hb := below_next hb hb1; clear hb1)))
  go_ret
  exact ⟨rfl, hb⟩
theorem seek_int (key nonce text : ByteArray) (a n : Int) (w : World) (ht : text.size ≤ 140737488351232) (h : (Lit.int .u32 a).wf = true) : Calls Try.prog 7 #[.string key, .int .u32 a, .string nonce, .string text, .int .i64 n] w fun e w' => e = .returned (.bool true) ∧ Below w.heap.size w w' := by
  obtain ⟨c, rfl, hc⟩ := u32_nat h
  by_cases ho : 2000 < text.size ∨ n < 0 ∨ (text.size : Int) / 64 < n
  · exact seek_out key nonce text c n w ht ho
  · obtain ⟨m, rfl⟩ := Int.eq_ofNat_of_zero_le (show 0 ≤ n by omega)
    have hm : 64 * m ≤ text.size := by omega
    have h2 : text.size ≤ 2000 := by omega
    have hl : (c + m) % 4294967296 < 4294967296 := Nat.mod_lt _ (by omega)
    have he : (((c + m) % 4294967296 : Nat) : Int) = ((c : Int) + (m : Int)) % 4294967296 := by omega
    by_cases hk : ok key nonce
    · have hx := xor_yes (text.extract (64 * m) text.size) _ hl hk (by simp; omega)
      rw [← xs_seek key nonce c text m hm, he] at hx
      exact seek_in key nonce text _ c m w h2 hm (xs_size _ _ _ _) (xor_yes text c hc hk (by omega)) hx
    · exact seek_no key nonce text c m w h2 hm (xor_no text c hk) (xor_no _ _ hk)
end Go.Proofs.Ytpojbjldboknmaa.Lc
