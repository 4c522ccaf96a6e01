/-
  The laws of the stream, walked: for every key, counter, nonce and text the functions return true.
-/
import Derived.Test.YtpojbjldboknmaaSy
namespace Go.Proofs.Ytpojbjldboknmaa.La
open Go.RowKit Go.Proofs.Ytpojbjldboknmaa.B Go.Proofs.Ytpojbjldboknmaa.E Go.Proofs.Ytpojbjldboknmaa.Ra Go.Proofs.Ytpojbjldboknmaa.Qa Go.Proofs.Ytpojbjldboknmaa.Ro Go.Proofs.Ytpojbjldboknmaa.Rd Go.Proofs.Ytpojbjldboknmaa.Sa Go.Proofs.Ytpojbjldboknmaa.Sb Go.Proofs.Ytpojbjldboknmaa.Sc Go.Proofs.Ytpojbjldboknmaa.Sd Go.Proofs.Ytpojbjldboknmaa.Bk Go.Proofs.Ytpojbjldboknmaa.Bl Go.Proofs.Ytpojbjldboknmaa.Xp Go.Proofs.Ytpojbjldboknmaa.Xa Go.Proofs.Ytpojbjldboknmaa.Xb Go.Proofs.Ytpojbjldboknmaa.Sy

/-- What a function of a text and an error tells. -/
abbrev Tells (f : FuncId) (args : Array Value) (T : ByteArray) (E : Int) : Prop := ∀ w : World, Calls Try.prog f args w fun e w' => e = .returned (.tuple #[.string T, .int .i64 E]) ∧ Below w.heap.size w w'
theorem xor_yes {key nonce : ByteArray} (text : ByteArray) (c : Nat) (hc : c < 4294967296) (h : ok key nonce) (hn : text.size ≤ 140737488351232) : Tells 17 #[.string key, .int .u32 (c : Int), .string nonce, .string text] (xs key nonce c text) 0 := fun w => xor_walk key nonce text c w hc h hn
theorem xor_no {key nonce : ByteArray} (text : ByteArray) (c : Int) (h : ¬ ok key nonce) : Tells 17 #[.string key, .int .u32 c, .string nonce, .string text] ⟨#[]⟩ 1 := fun w => xor_none key nonce text c w h
theorem ref_yes {key nonce : ByteArray} (text : ByteArray) (c : Nat) (hc : c < 4294967296) (h : ok key nonce) (hn : text.size ≤ 140737488351232) : Tells 18 #[.string key, .int .u32 (c : Int), .string nonce, .string text] (xs key nonce c text) 0 := fun w => ref_xor_walk key nonce text c w hc h hn
theorem ref_no {key nonce : ByteArray} (text : ByteArray) (c : Int) (h : ¬ ok key nonce) : Tells 18 #[.string key, .int .u32 c, .string nonce, .string text] ⟨#[]⟩ 1 := fun w => ref_xor_none key nonce text c w h

set_option maxHeartbeats 4000000 in
set_option maxRecDepth 100000 in
theorem long_match (key nonce text : ByteArray) (c : Int) (w : World) (h : 2000 < text.size) : Calls Try.prog 5 #[.string key, .int .u32 c, .string nonce, .string text] w fun e w' => e = .returned (.bool true) ∧ Below w.heap.size w w' := by
  go_enter Try.func5, Try.ntmps5
  go_wp2_with (first | (go_at_call 13; ((with_reducible refine (sanity_walk _).mono ?_); rintro e w1 ⟨rfl, hb1⟩)))
  go_ret
  exact ⟨rfl, hb1⟩
set_option maxHeartbeats 4000000 in
set_option maxRecDepth 100000 in
theorem short_match (key nonce text : ByteArray) (c : Int) (w : World) (h : text.size ≤ 2000) (T : ByteArray) (E : Int) (h1 : Tells 17 #[.string key, .int .u32 c, .string nonce, .string text] T E) (h2 : Tells 18 #[.string key, .int .u32 c, .string nonce, .string text] T E) :
    Calls Try.prog 5 #[.string key, .int .u32 c, .string nonce, .string text] w fun e w' => e = .returned (.bool true) ∧ Below w.heap.size w w' := by
  have H1 := Lib.hid h1
  have H2 := Lib.hid h2
  clear h1 h2
  have hb : Below w.heap.size w w := Below.refl _ _
  go_enter Try.func5, Try.ntmps5
  go_wp2_with (first
    | (go_at_call 13; ((with_reducible refine (sanity_walk _).mono ?_); rintro e w1 ⟨rfl, hb1⟩; replace hb := below_next hb hb1; clear hb1))
    | (go_at_call 17; ((with_reducible refine (H1.out _).mono ?_); rintro e w1 ⟨rfl, hb1⟩; replace hb := below_next hb hb1; clear hb1))
    | (go_at_call 18; ((with_reducible refine (H2.out _).mono ?_); rintro e w1 ⟨rfl, hb1⟩; replace hb := below_next hb hb1; clear hb1)))
  go_ret
  exact ⟨by simp, hb⟩
theorem xor_match (key nonce text : ByteArray) (c : Nat) (w : World) (hc : c < 4294967296) : Calls Try.prog 5 #[.string key, .int .u32 (c : Int), .string nonce, .string text] w fun e w' => e = .returned (.bool true) ∧ Below w.heap.size w w' := by
  by_cases h : text.size ≤ 2000
  · by_cases ho : ok key nonce
    · exact short_match key nonce text c w h _ _ (xor_yes text c hc ho (by omega)) (ref_yes text c hc ho (by omega))
    · exact short_match key nonce text c w h _ _ (xor_no text c ho) (ref_no text c ho)
  · exact long_match key nonce text c w (by omega)

set_option maxHeartbeats 4000000 in
set_option maxRecDepth 100000 in
theorem long_twice (key nonce text : ByteArray) (c : Int) (w : World) (h : 2000 < text.size) : Calls Try.prog 6 #[.string key, .int .u32 c, .string nonce, .string text] w fun e w' => e = .returned (.bool true) ∧ Below w.heap.size w w' := by
  go_enter Try.func6, Try.ntmps6
  go_wp2_with (first | (go_at_call 13; ((with_reducible refine (sanity_walk _).mono ?_); rintro e w1 ⟨rfl, hb1⟩)))
  go_ret
  exact ⟨rfl, hb1⟩
set_option maxHeartbeats 4000000 in
set_option maxRecDepth 100000 in
theorem twice_no (key nonce text : ByteArray) (c : Int) (w : World) (h : text.size ≤ 2000) (h1 : Tells 17 #[.string key, .int .u32 c, .string nonce, .string text] ⟨#[]⟩ 1) (h2 : Tells 17 #[.string key, .int .u32 c, .string nonce, .string ⟨#[]⟩] ⟨#[]⟩ 1) :
    Calls Try.prog 6 #[.string key, .int .u32 c, .string nonce, .string text] w fun e w' => e = .returned (.bool true) ∧ Below w.heap.size w w' := by
  have H1 := Lib.hid h1
  have H2 := Lib.hid h2
  clear h1 h2
  have hb : Below w.heap.size w w := Below.refl _ _
  go_enter Try.func6, Try.ntmps6
  go_wp2_with (first
    | (go_at_call 13; ((with_reducible refine (sanity_walk _).mono ?_); rintro e w1 ⟨rfl, hb1⟩; replace hb := below_next hb hb1; clear hb1))
    | (go_at_call 17; ((with_reducible refine (H1.out _).mono ?_); rintro e w1 ⟨rfl, hb1⟩; replace hb := below_next hb hb1; clear hb1))
    | (go_at_call 17; ((with_reducible refine (H2.out _).mono ?_); rintro e w1 ⟨rfl, hb1⟩; replace hb := below_next hb hb1; clear hb1)))
  go_ret
  exact ⟨rfl, hb⟩
set_option maxHeartbeats 4000000 in
set_option maxRecDepth 100000 in
theorem twice_yes (key nonce text T : ByteArray) (c : Int) (w : World) (h : text.size ≤ 2000) (h1 : Tells 17 #[.string key, .int .u32 c, .string nonce, .string text] T 0) (h2 : Tells 17 #[.string key, .int .u32 c, .string nonce, .string T] text 0) :
    Calls Try.prog 6 #[.string key, .int .u32 c, .string nonce, .string text] w fun e w' => e = .returned (.bool true) ∧ Below w.heap.size w w' := by
  have H1 := Lib.hid h1
  have H2 := Lib.hid h2
  clear h1 h2
  have hb : Below w.heap.size w w := Below.refl _ _
  go_enter Try.func6, Try.ntmps6
  go_wp2_with (first
    | (go_at_call 13; ((with_reducible refine (sanity_walk _).mono ?_); rintro e w1 ⟨rfl, hb1⟩; replace hb := below_next hb hb1; clear hb1))
    | (go_at_call 17; ((with_reducible refine (H1.out _).mono ?_); rintro e w1 ⟨rfl, hb1⟩; replace hb := below_next hb hb1; clear hb1))
    | (go_at_call 17; ((with_reducible refine (H2.out _).mono ?_); rintro e w1 ⟨rfl, hb1⟩; replace hb := below_next hb hb1; clear hb1)))
  go_ret
  exact ⟨by simp, hb⟩
theorem xor_twice_walk (key nonce text : ByteArray) (c : Nat) (w : World) (hc : c < 4294967296) : Calls Try.prog 6 #[.string key, .int .u32 (c : Int), .string nonce, .string text] w fun e w' => e = .returned (.bool true) ∧ Below w.heap.size w w' := by
  by_cases h : text.size ≤ 2000
  · by_cases ho : ok key nonce
    · have h2 := xor_yes (xs key nonce c text) c hc ho (by rw [xs_size]; omega)
      rw [xs_twice] at h2
      exact twice_yes key nonce text _ c w h (xor_yes text c hc ho (by omega)) h2
    · exact twice_no key nonce text c w h (xor_no text c ho) (xor_no _ c ho)
  · exact long_twice key nonce text c w (by omega)
/-- A u32's number. -/
theorem u32_nat {a : Int} (h : (Lit.int .u32 a).wf = true) : ∃ c : Nat, a = (c : Int) ∧ c < 4294967296 := by
  have hb : 0 ≤ a ∧ a ≤ 4294967295 := by
    simp only [Lit.wf, IntKind.min, IntKind.max, IntKind.signed, IntKind.bits] at h
    simp at h
    omega
  obtain ⟨c, rfl⟩ := Int.eq_ofNat_of_zero_le hb.1
  exact ⟨c, rfl, by omega⟩
theorem xor_match_int (key nonce text : ByteArray) (a : Int) (w : World) (h : (Lit.int .u32 a).wf = true) : Calls Try.prog 5 #[.string key, .int .u32 a, .string nonce, .string text] w fun e w' => e = .returned (.bool true) ∧ Below w.heap.size w w' := by
  obtain ⟨c, rfl, hc⟩ := u32_nat h
  exact xor_match key nonce text c w hc
theorem xor_twice_int (key nonce text : ByteArray) (a : Int) (w : World) (h : (Lit.int .u32 a).wf = true) : Calls Try.prog 6 #[.string key, .int .u32 a, .string nonce, .string text] w fun e w' => e = .returned (.bool true) ∧ Below w.heap.size w w' := by
  obtain ⟨c, rfl, hc⟩ := u32_nat h
  exact xor_twice_walk key nonce text c w hc
end Go.Proofs.Ytpojbjldboknmaa.La
