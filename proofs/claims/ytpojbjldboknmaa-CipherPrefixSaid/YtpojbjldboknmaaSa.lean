/-
  A word out of four bytes: what the code and the specification read.
-/
import Derived.Test.YtpojbjldboknmaaRd
import Derived.Test.YtpojbjldboknmaaPu
namespace Go.Proofs.Ytpojbjldboknmaa.Sa
open Go.RowKit Go.Proofs.Ytpojbjldboknmaa.B Go.Proofs.Ytpojbjldboknmaa.Ra Go.Proofs.Ytpojbjldboknmaa.Qa Go.Proofs.Ytpojbjldboknmaa.Qb Go.Proofs.Ytpojbjldboknmaa.Ro Go.Proofs.YtpojbjldboknmaaW.PrintWords

/-- Byte j. -/
def by8 (s : ByteArray) (j : Nat) : Nat := (bt s (j : Int)).toNat
theorem by8_lt (s : ByteArray) (j : Nat) : by8 s j < 256 := by
  have h := bt_range s (j : Int)
  unfold by8
  omega
theorem bt_by8 (s : ByteArray) (j : Nat) : bt s (j : Int) = ((by8 s j : Nat) : Int) := by
  have h := bt_range s (j : Int)
  unfold by8
  omega
/-- The word at byte o. -/
def wd (s : ByteArray) (o : Nat) : Nat := by8 s o + by8 s (o + 1) * 256 + by8 s (o + 2) * 65536 + by8 s (o + 3) * 16777216
theorem wd_lt (s : ByteArray) (o : Nat) : wd s o < 4294967296 := by
  have h0 := by8_lt s o
  have h1 := by8_lt s (o + 1)
  have h2 := by8_lt s (o + 2)
  have h3 := by8_lt s (o + 3)
  unfold wd
  omega
theorem or_add (a b n : Nat) (ha : a < 2 ^ n) : a ||| 2 ^ n * b = a + 2 ^ n * b := by rw [Nat.or_comm, parts_or b a n ha, Nat.add_comm]
theorem get_f (s : ByteArray) (hs : 4 ≤ s.size) : PCipherMatchesSpec.cipher_get.f s = some ((wd s 0 : Nat) : Int) := by
  have h0 := by8_lt s 0
  have h1 := by8_lt s 1
  have h2 := by8_lt s 2
  have h3 := by8_lt s 3
  unfold PCipherMatchesSpec.cipher_get.f
  rw [if_pos (by omega), if_pos (by omega), if_pos (by omega), if_pos (by omega)]
  rw [show bt s 0 = ((by8 s 0 : Nat) : Int) from bt_by8 s 0, show bt s 1 = ((by8 s 1 : Nat) : Int) from bt_by8 s 1, show bt s 2 = ((by8 s 2 : Nat) : Int) from bt_by8 s 2, show bt s 3 = ((by8 s 3 : Nat) : Int) from bt_by8 s 3]
  rw [show ((by8 s 0 : Nat) : Int) % 4294967296 = ((by8 s 0 : Nat) : Int) by omega, show ((by8 s 1 : Nat) : Int) % 4294967296 * 256 % 4294967296 = ((2 ^ 8 * by8 s 1 : Nat) : Int) by omega,
    show ((by8 s 2 : Nat) : Int) % 4294967296 * 65536 % 4294967296 = ((2 ^ 16 * by8 s 2 : Nat) : Int) by omega, show ((by8 s 3 : Nat) : Int) % 4294967296 * 16777216 % 4294967296 = ((2 ^ 24 * by8 s 3 : Nat) : Int) by omega]
  rw [u32_or_nat _ _ (by omega) (by omega), or_add _ _ 8 (by omega), u32_or_nat _ _ (by omega) (by omega), or_add _ _ 16 (by omega), u32_or_nat _ _ (by omega) (by omega), or_add _ _ 24 (by omega)]
  unfold wd
  simp only [Nat.zero_add]
  congr 1
  omega
theorem word_f (s : ByteArray) (hs : 4 ≤ s.size) : PCipherMatchesSpec.custodyref03_word.f s = some ((wd s 0 : Nat) : Int) := by
  have h0 := by8_lt s 0
  have h1 := by8_lt s 1
  have h2 := by8_lt s 2
  have h3 := by8_lt s 3
  unfold PCipherMatchesSpec.custodyref03_word.f
  rw [if_pos (by omega), if_pos (by omega), if_pos (by omega), if_pos (by omega)]
  rw [show bt s 0 = ((by8 s 0 : Nat) : Int) from bt_by8 s 0, show bt s 1 = ((by8 s 1 : Nat) : Int) from bt_by8 s 1, show bt s 2 = ((by8 s 2 : Nat) : Int) from bt_by8 s 2, show bt s 3 = ((by8 s 3 : Nat) : Int) from bt_by8 s 3]
  unfold wd
  simp only [Nat.zero_add]
  congr 1
  omega
theorem by8_extract (s : ByteArray) (o j : Nat) (h : o + j < s.size) : by8 (s.extract o s.size) j = by8 s (o + j) := by
  unfold by8 bt
  have h1 : j < (s.extract o s.size).size := by simp; omega
  simp only [Int.toNat_natCast, h1, h, dite_true]
  simp [ByteArray.getElem_extract]
theorem wd_extract (s : ByteArray) (o : Nat) (h : o + 4 ≤ s.size) : wd (s.extract o s.size) 0 = wd s o := by
  unfold wd
  rw [by8_extract s o 0 (by omega), by8_extract s o (0 + 1) (by omega), by8_extract s o (0 + 2) (by omega), by8_extract s o (0 + 3) (by omega)]
  simp only [Nat.zero_add, Nat.add_zero]
theorem get_walk (s : ByteArray) (o : Nat) (w : World) (h : o + 4 ≤ s.size) : Calls Try.prog 19 #[.string (s.extract o s.size)] w fun e w' => e = .returned (.int .u32 ((wd s o : Nat) : Int)) ∧ ∃ m, w' = w.drewN m := by
  have h1 := get_f (s.extract o s.size) (by simp; omega)
  rw [wd_extract s o h] at h1
  exact (PCipherMatchesSpec.cipher_get.calls _ _ w h1).mono fun _ _ h => ⟨h.1, h.2.out⟩
theorem word_walk (s : ByteArray) (o : Nat) (w : World) (h : o + 4 ≤ s.size) : Calls Try.prog 20 #[.string (s.extract o s.size)] w fun e w' => e = .returned (.int .u32 ((wd s o : Nat) : Int)) ∧ ∃ m, w' = w.drewN m := by
  have h1 := word_f (s.extract o s.size) (by simp; omega)
  rw [wd_extract s o h] at h1
  exact (PCipherMatchesSpec.custodyref03_word.calls _ _ w h1).mono fun _ _ h => ⟨h.1, h.2.out⟩
theorem get_from (s : ByteArray) (o n : Nat) (w : World) (hn : s.size = n) (h : o + 4 ≤ n) : Calls Try.prog 19 #[.string (s.extract o n)] w fun e w' => e = .returned (.int .u32 ((wd s o : Nat) : Int)) ∧ ∃ m, w' = w.drewN m := by
  subst hn
  exact get_walk s o w h
theorem word_from (s : ByteArray) (o n : Nat) (w : World) (hn : s.size = n) (h : o + 4 ≤ n) : Calls Try.prog 20 #[.string (s.extract o n)] w fun e w' => e = .returned (.int .u32 ((wd s o : Nat) : Int)) ∧ ∃ m, w' = w.drewN m := by
  subst hn
  exact word_walk s o w h
/-- The first k words of a text are laid behind place off. -/
def fl (s : ByteArray) (off : Nat) (l : List Nat) : Nat → List Nat
  | 0 => l
  | k + 1 => (fl s off l k).set (off + k) (wd s (4 * k))
theorem fl_fit {l : List Nat} (h : Fit l) (s : ByteArray) (off : Nat) : ∀ k, Fit (fl s off l k)
  | 0 => h
  | k + 1 => fit_set (fl_fit h s off k) _ _ (wd_lt _ _)
def noughts : List Nat := [0, 0, 0, 0, 0, 0, 0, 0, 0, 0, 0, 0, 0, 0, 0, 0]
def beg (c : Nat) : List Nat := [1634760805, 857760878, 2036477234, 1797285236, 0, 0, 0, 0, 0, 0, 0, 0, c, 0, 0, 0]
theorem start_fit (c : Nat) (hc : c < 4294967296) : Fit (beg c) := by
  refine ⟨rfl, fun x hx => ?_⟩
  simp [beg] at hx
  omega
theorem noughts_fit : Fit noughts := ⟨rfl, fun x hx => by simp [noughts] at hx; omega⟩
/-- The state of a block. -/
def st (key : ByteArray) (c : Nat) (nonce : ByteArray) : List Nat := fl nonce 13 (fl key 4 (beg c) 8) 3
theorem st_fit (key : ByteArray) (c : Nat) (nonce : ByteArray) (hc : c < 4294967296) : Fit (st key c nonce) := fl_fit (fl_fit (start_fit c hc) _ _ _) _ _ _
def ok (key nonce : ByteArray) : Prop := key.size = 32 ∧ nonce.size = 12
end Go.Proofs.Ytpojbjldboknmaa.Sa
