/-
  The walk of the law FieldAxioms.
-/
import Derived.Test.YtgijeelednmmkaaWe
import Derived.Test.YtgijeelednmmkaaG
namespace Go.Proofs.Ytgijeelednmmkaa.Ax
open Go.RowKit Go.Proofs.Ytgijeelednmmkaa.M Go.Proofs.Ytgijeelednmmkaa.B Go.Proofs.Ytgijeelednmmkaa.Wa Go.Proofs.Ytgijeelednmmkaa.Wc Go.Proofs.Ytgijeelednmmkaa.We Go.Proofs.Ytgijeelednmmkaa.G

theorem mul_as (a b r : Nat) (w : World) (ha : a < 256) (hb : b < 256) (h : mul a b = r) :
    Calls Try.prog 14 #[.int .u8 (a : Int), .int .u8 (b : Int)] w fun e w' => e = .returned (.int .u8 (r : Nat)) ∧ w = w' := by
  subst h; exact mul_walk a b w ha hb
theorem div_as (a b r : Nat) (d : Int) (w : World) (ha : a < 256) (hb : b < 256) (h : dvs a b = r) (hd : dve b = d) :
    Calls Try.prog 11 #[.int .u8 (a : Int), .int .u8 (b : Int)] w fun e w' => e = .returned (.tuple #[.int .u8 (r : Nat), .int .i64 d]) ∧ Below w.heap.size w w' := by
  subst h; subst hd; exact div_walk a b w ha hb

set_option maxHeartbeats 2000000 in
/-- Neither is 0. -/
theorem ax_a (a b c p s t u : Nat) (w : World) (ha : a < 256) (hb : b < 256) (hc : c < 256) (lp : p < 256) (lt : t < 256) (lu : u < 256)
    (P1 : Hid (mul a b = p)) (P2 : Hid (mul p c = s)) (P3 : Hid (mul b c = t)) (P4 : Hid (mul a c = u)) (P5 : Hid (mul b a = p)) (P6 : Hid (mul a t = s)) (P7 : Hid (mul a (b ^^^ c) = p ^^^ u)) (P8 : Hid (mul a 1 = a))
    (P9 : Hid (dvs p b = a)) (P10 : Hid (dve b = 0)) (_T1 : ((b : Int) != 0) = true) (_T2 : ((p : Int) != 0) = true) :
    Calls Try.prog 4 #[.int .u8 (a : Int), .int .u8 (b : Int), .int .u8 (c : Int)] w fun e w' => e = .returned (.bool true) ∧ Below w.heap.size w w' := by
  have lx : b ^^^ c < 256 := xor_lt _ _ hb hc
  have X1 : Go.bits .xor .u8 (b : Int) (c : Int) = ((b ^^^ c : Nat) : Int) := u8_xor_nat _ _ hb hc
  have X2 : Go.bits .xor .u8 (p : Int) (u : Int) = ((p ^^^ u : Nat) : Int) := u8_xor_nat _ _ lp lu
  go_enter Try.func4, Try.ntmps4
  go_wp2_with fail
  go_at_call 14
  refine (mul_as a b p _ ha hb P1.out).mono ?_
  rintro e w' ⟨rfl, rfl⟩
  go_wp2_with fail
  go_at_call 11
  refine (div_as p b a 0 _ lp hb P9.out P10.out).mono ?_
  rintro e w1 ⟨rfl, b1⟩
  go_wp2_with fail
  go_at_call 13
  refine (sanity_walk _).mono ?_
  rintro e w2 ⟨rfl, b2⟩
  go_wp2_with (first | (go_at_call 14; first | ((with_reducible refine (mul_as b a p _ hb ha P5.out).mono ?_); rintro e w' ⟨rfl, rfl⟩) | ((with_reducible refine (mul_as p c s _ lp hc P2.out).mono ?_); rintro e w' ⟨rfl, rfl⟩) | ((with_reducible refine (mul_as b c t _ hb hc P3.out).mono ?_); rintro e w' ⟨rfl, rfl⟩) | ((with_reducible refine (mul_as a t s _ ha lt P6.out).mono ?_); rintro e w' ⟨rfl, rfl⟩) | ((with_reducible refine (mul_as a (b ^^^ c) (p ^^^ u) _ ha lx P7.out).mono ?_); rintro e w' ⟨rfl, rfl⟩) | ((with_reducible refine (mul_as a c u _ ha hc P4.out).mono ?_); rintro e w' ⟨rfl, rfl⟩) | (refine (mul_as a 1 a _ ha (by omega) P8.out).mono ?_; rintro e w' ⟨rfl, rfl⟩)))
  go_ret
  exact ⟨rfl, below_next b1 b2⟩
set_option maxHeartbeats 2000000 in
/-- a is 0, b is not. -/
theorem ax_b (a b c p s t u : Nat) (w : World) (ha : a < 256) (hb : b < 256) (hc : c < 256) (lp : p < 256) (lt : t < 256) (lu : u < 256)
    (P1 : Hid (mul a b = p)) (P2 : Hid (mul p c = s)) (P3 : Hid (mul b c = t)) (P4 : Hid (mul a c = u)) (P5 : Hid (mul b a = p)) (P6 : Hid (mul a t = s)) (P7 : Hid (mul a (b ^^^ c) = p ^^^ u)) (P8 : Hid (mul a 1 = a))
    (P9 : Hid (dvs p b = a)) (P10 : Hid (dve b = 0)) (_T1 : ((b : Int) != 0) = true) (_T2 : ((p : Int) != 0) = false) (_T3 : ((a : Int) == 0) = true) :
    Calls Try.prog 4 #[.int .u8 (a : Int), .int .u8 (b : Int), .int .u8 (c : Int)] w fun e w' => e = .returned (.bool true) ∧ Below w.heap.size w w' := by
  have lx : b ^^^ c < 256 := xor_lt _ _ hb hc
  have X1 : Go.bits .xor .u8 (b : Int) (c : Int) = ((b ^^^ c : Nat) : Int) := u8_xor_nat _ _ hb hc
  have X2 : Go.bits .xor .u8 (p : Int) (u : Int) = ((p ^^^ u : Nat) : Int) := u8_xor_nat _ _ lp lu
  go_enter Try.func4, Try.ntmps4
  go_wp2_with fail
  go_at_call 14
  refine (mul_as a b p _ ha hb P1.out).mono ?_
  rintro e w' ⟨rfl, rfl⟩
  go_wp2_with fail
  go_at_call 11
  refine (div_as p b a 0 _ lp hb P9.out P10.out).mono ?_
  rintro e w1 ⟨rfl, b1⟩
  go_wp2_with fail
  go_at_call 13
  refine (sanity_walk _).mono ?_
  rintro e w2 ⟨rfl, b2⟩
  go_wp2_with (first | (go_at_call 14; first | ((with_reducible refine (mul_as b a p _ hb ha P5.out).mono ?_); rintro e w' ⟨rfl, rfl⟩) | ((with_reducible refine (mul_as p c s _ lp hc P2.out).mono ?_); rintro e w' ⟨rfl, rfl⟩) | ((with_reducible refine (mul_as b c t _ hb hc P3.out).mono ?_); rintro e w' ⟨rfl, rfl⟩) | ((with_reducible refine (mul_as a t s _ ha lt P6.out).mono ?_); rintro e w' ⟨rfl, rfl⟩) | ((with_reducible refine (mul_as a (b ^^^ c) (p ^^^ u) _ ha lx P7.out).mono ?_); rintro e w' ⟨rfl, rfl⟩) | ((with_reducible refine (mul_as a c u _ ha hc P4.out).mono ?_); rintro e w' ⟨rfl, rfl⟩) | (refine (mul_as a 1 a _ ha (by omega) P8.out).mono ?_; rintro e w' ⟨rfl, rfl⟩)))
  go_ret
  exact ⟨rfl, below_next b1 b2⟩
set_option maxHeartbeats 2000000 in
/-- b is 0. -/
theorem ax_c (a b c p s t u : Nat) (w : World) (ha : a < 256) (hb : b < 256) (hc : c < 256) (lp : p < 256) (lt : t < 256) (lu : u < 256)
    (P1 : Hid (mul a b = p)) (P2 : Hid (mul p c = s)) (P3 : Hid (mul b c = t)) (P4 : Hid (mul a c = u)) (P5 : Hid (mul b a = p)) (P6 : Hid (mul a t = s)) (P7 : Hid (mul a (b ^^^ c) = p ^^^ u)) (P8 : Hid (mul a 1 = a))
    (P9 : Hid (dvs p b = 0)) (P10 : Hid (dve b = 1)) (_T1 : ((b : Int) != 0) = false) (_T2 : ((p : Int) != 0) = false) (_T3 : ((b : Int) == 0) = true) (_T4 : ((a : Int) == 0) = true) :
    Calls Try.prog 4 #[.int .u8 (a : Int), .int .u8 (b : Int), .int .u8 (c : Int)] w fun e w' => e = .returned (.bool true) ∧ Below w.heap.size w w' := by
  have lx : b ^^^ c < 256 := xor_lt _ _ hb hc
  have X1 : Go.bits .xor .u8 (b : Int) (c : Int) = ((b ^^^ c : Nat) : Int) := u8_xor_nat _ _ hb hc
  have X2 : Go.bits .xor .u8 (p : Int) (u : Int) = ((p ^^^ u : Nat) : Int) := u8_xor_nat _ _ lp lu
  go_enter Try.func4, Try.ntmps4
  go_wp2_with fail
  go_at_call 14
  refine (mul_as a b p _ ha hb P1.out).mono ?_
  rintro e w' ⟨rfl, rfl⟩
  go_wp2_with fail
  go_at_call 11
  refine (div_as p b 0 1 _ lp hb P9.out P10.out).mono ?_
  rintro e w1 ⟨rfl, b1⟩
  go_wp2_with fail
  go_at_call 13
  refine (sanity_walk _).mono ?_
  rintro e w2 ⟨rfl, b2⟩
  go_wp2_with (first | (go_at_call 14; first | ((with_reducible refine (mul_as b a p _ hb ha P5.out).mono ?_); rintro e w' ⟨rfl, rfl⟩) | ((with_reducible refine (mul_as p c s _ lp hc P2.out).mono ?_); rintro e w' ⟨rfl, rfl⟩) | ((with_reducible refine (mul_as b c t _ hb hc P3.out).mono ?_); rintro e w' ⟨rfl, rfl⟩) | ((with_reducible refine (mul_as a t s _ ha lt P6.out).mono ?_); rintro e w' ⟨rfl, rfl⟩) | ((with_reducible refine (mul_as a (b ^^^ c) (p ^^^ u) _ ha lx P7.out).mono ?_); rintro e w' ⟨rfl, rfl⟩) | ((with_reducible refine (mul_as a c u _ ha hc P4.out).mono ?_); rintro e w' ⟨rfl, rfl⟩) | (refine (mul_as a 1 a _ ha (by omega) P8.out).mono ?_; rintro e w' ⟨rfl, rfl⟩)))
  go_ret
  exact ⟨rfl, below_next b1 b2⟩
set_option maxHeartbeats 2000000 in
/-- b is 0, a is not. -/
theorem ax_d (a b c p s t u : Nat) (w : World) (ha : a < 256) (hb : b < 256) (hc : c < 256) (lp : p < 256) (lt : t < 256) (lu : u < 256)
    (P1 : Hid (mul a b = p)) (P2 : Hid (mul p c = s)) (P3 : Hid (mul b c = t)) (P4 : Hid (mul a c = u)) (P5 : Hid (mul b a = p)) (P6 : Hid (mul a t = s)) (P7 : Hid (mul a (b ^^^ c) = p ^^^ u)) (P8 : Hid (mul a 1 = a))
    (P9 : Hid (dvs p b = 0)) (P10 : Hid (dve b = 1)) (_T1 : ((b : Int) != 0) = false) (_T2 : ((p : Int) != 0) = false) (_T3 : ((b : Int) == 0) = true) (_T4 : ((a : Int) == 0) = false) :
    Calls Try.prog 4 #[.int .u8 (a : Int), .int .u8 (b : Int), .int .u8 (c : Int)] w fun e w' => e = .returned (.bool true) ∧ Below w.heap.size w w' := by
  have lx : b ^^^ c < 256 := xor_lt _ _ hb hc
  have X1 : Go.bits .xor .u8 (b : Int) (c : Int) = ((b ^^^ c : Nat) : Int) := u8_xor_nat _ _ hb hc
  have X2 : Go.bits .xor .u8 (p : Int) (u : Int) = ((p ^^^ u : Nat) : Int) := u8_xor_nat _ _ lp lu
  go_enter Try.func4, Try.ntmps4
  go_wp2_with fail
  go_at_call 14
  refine (mul_as a b p _ ha hb P1.out).mono ?_
  rintro e w' ⟨rfl, rfl⟩
  go_wp2_with fail
  go_at_call 11
  refine (div_as p b 0 1 _ lp hb P9.out P10.out).mono ?_
  rintro e w1 ⟨rfl, b1⟩
  go_wp2_with fail
  go_at_call 13
  refine (sanity_walk _).mono ?_
  rintro e w2 ⟨rfl, b2⟩
  go_wp2_with (first | (go_at_call 14; first | ((with_reducible refine (mul_as b a p _ hb ha P5.out).mono ?_); rintro e w' ⟨rfl, rfl⟩) | ((with_reducible refine (mul_as p c s _ lp hc P2.out).mono ?_); rintro e w' ⟨rfl, rfl⟩) | ((with_reducible refine (mul_as b c t _ hb hc P3.out).mono ?_); rintro e w' ⟨rfl, rfl⟩) | ((with_reducible refine (mul_as a t s _ ha lt P6.out).mono ?_); rintro e w' ⟨rfl, rfl⟩) | ((with_reducible refine (mul_as a (b ^^^ c) (p ^^^ u) _ ha lx P7.out).mono ?_); rintro e w' ⟨rfl, rfl⟩) | ((with_reducible refine (mul_as a c u _ ha hc P4.out).mono ?_); rintro e w' ⟨rfl, rfl⟩) | (refine (mul_as a 1 a _ ha (by omega) P8.out).mono ?_; rintro e w' ⟨rfl, rfl⟩)))
  go_ret
  exact ⟨rfl, below_next b1 b2⟩

theorem axioms_walk (a b c : Nat) (w : World) (ha : a < 256) (hb : b < 256) (hc : c < 256) :
    Calls Try.prog 4 #[.int .u8 (a : Int), .int .u8 (b : Int), .int .u8 (c : Int)] w fun e w' => e = .returned (.bool true) ∧ Below w.heap.size w w' := by
  have P5 : mul b a = mul a b := mul_comm b a hb ha
  have P6 : mul a (mul b c) = mul (mul a b) c := (mul_assoc a b c ha hb hc).symm
  have P7 : mul a (b ^^^ c) = mul a b ^^^ mul a c := mul_xor_right a b c
  have lp := mul_lt a b ha
  have lt := mul_lt b c hb
  have lu := mul_lt a c ha
  by_cases h0 : b = 0
  · have p0 : mul a b = 0 := by rw [h0, mul_zero]
    have P9 : dvs (mul a b) b = 0 := by rw [dvs, if_pos h0]
    have P10 : dve b = 1 := by rw [dve, if_pos h0]
    by_cases ha0 : a = 0
    · exact ax_c a b c _ _ _ _ w ha hb hc lp lt lu (Lib.hid rfl) (Lib.hid rfl) (Lib.hid rfl) (Lib.hid rfl) (Lib.hid P5) (Lib.hid P6) (Lib.hid P7) (Lib.hid (mul_one a)) (Lib.hid P9) (Lib.hid P10) (by simp; omega) (by simp; omega) (by simp; omega) (by simp; omega)
    · exact ax_d a b c _ _ _ _ w ha hb hc lp lt lu (Lib.hid rfl) (Lib.hid rfl) (Lib.hid rfl) (Lib.hid rfl) (Lib.hid P5) (Lib.hid P6) (Lib.hid P7) (Lib.hid (mul_one a)) (Lib.hid P9) (Lib.hid P10) (by simp; omega) (by simp; omega) (by simp; omega) (by simp; omega)
  · have P9 : dvs (mul a b) b = a := by rw [dvs, if_neg h0, mul_assoc a b _ ha hb (inv_lt b), mul_inv b hb h0, mul_one]
    have P10 : dve b = 0 := by rw [dve, if_neg h0]
    by_cases ha0 : a = 0
    · have p0 : mul a b = 0 := by rw [ha0, zero_mul]
      exact ax_b a b c _ _ _ _ w ha hb hc lp lt lu (Lib.hid rfl) (Lib.hid rfl) (Lib.hid rfl) (Lib.hid rfl) (Lib.hid P5) (Lib.hid P6) (Lib.hid P7) (Lib.hid (mul_one a)) (Lib.hid P9) (Lib.hid P10) (by simp; omega) (by simp; omega) (by simp; omega)
    · have p0 := mul_ne a b ha hb ha0 h0
      exact ax_a a b c _ _ _ _ w ha hb hc lp lt lu (Lib.hid rfl) (Lib.hid rfl) (Lib.hid rfl) (Lib.hid rfl) (Lib.hid P5) (Lib.hid P6) (Lib.hid P7) (Lib.hid (mul_one a)) (Lib.hid P9) (Lib.hid P10) (by simp; omega) (by simp; omega)
theorem byte {a : Int} (h : (Lit.int .u8 a).wf = true) : ∃ n : Nat, a = (n : Int) ∧ n < 256 := by
  simp only [Lit.wf, IntKind.min, IntKind.max, IntKind.signed, IntKind.bits] at h
  simp at h
  exact ⟨a.toNat, by omega, by omega⟩
theorem axioms_int (a b c : Int) (w : World) (wa : (Lit.int .u8 a).wf = true) (wb : (Lit.int .u8 b).wf = true) (wc : (Lit.int .u8 c).wf = true) :
    Calls Try.prog 4 #[.int .u8 a, .int .u8 b, .int .u8 c] w fun e w' => e = .returned (.bool true) ∧ Below w.heap.size w w' := by
  obtain ⟨a, rfl, ha⟩ := byte wa
  obtain ⟨b, rfl, hb⟩ := byte wb
  obtain ⟨c, rfl, hc⟩ := byte wc
  exact axioms_walk a b c w ha hb hc
end Go.Proofs.Ytgijeelednmmkaa.Ax
