/-
  The stream: bytes of blocks, what Xor makes of a text, and the plain laws of it; no program.
-/
import Derived.Test.YtpojbjldboknmaaBl
namespace Go.Proofs.Ytpojbjldboknmaa.Xp
open Go.RowKit Go.Proofs.Ytpojbjldboknmaa.B Go.Proofs.Ytpojbjldboknmaa.Ra Go.Proofs.Ytpojbjldboknmaa.Qa Go.Proofs.Ytpojbjldboknmaa.Qb Go.Proofs.Ytpojbjldboknmaa.Ro Go.Proofs.Ytpojbjldboknmaa.Sa Go.Proofs.Ytpojbjldboknmaa.Bk Go.Proofs.YtpojbjldboknmaaW.PrintWords

/-- A block's text. -/
def blkS (key nonce : ByteArray) (c : Nat) : ByteArray := strOfNums (outk (st key c nonce) (dn (st key c nonce) 10) 16)
theorem blkS_size (key nonce : ByteArray) (c : Nat) : (blkS key nonce c).size = 64 := by unfold blkS; rw [strOfNums_size, outk_length]
/-- Byte i of the stream that begins with block c. -/
def ks (key nonce : ByteArray) (c i : Nat) : Nat := by8 (blkS key nonce ((c + i / 64) % 4294967296)) (i % 64)
theorem ks_lt (key nonce : ByteArray) (c i : Nat) : ks key nonce c i < 256 := by8_lt _ _
theorem xor_lt8 (a b : Nat) (ha : a < 256) (hb : b < 256) : a ^^^ b < 256 := Nat.xor_lt_two_pow (n := 8) ha hb
/-- Byte i of a text, XORed. -/
def xb (key nonce : ByteArray) (c : Nat) (text : ByteArray) (i : Nat) : Nat := by8 text i ^^^ ks key nonce c i
theorem xb_lt (key nonce : ByteArray) (c : Nat) (text : ByteArray) (i : Nat) : xb key nonce c text i < 256 := xor_lt8 _ _ (by8_lt _ _) (ks_lt _ _ _ _)
/-- The first p bytes, XORed. -/
def xo (key nonce : ByteArray) (c : Nat) (text : ByteArray) (p : Nat) : List Int := (List.range p).map fun i => ((xb key nonce c text i : Nat) : Int)
/-- A text whose first k bytes are XORed. -/
def xk (key nonce : ByteArray) (c : Nat) (text : ByteArray) (k : Nat) : List Int := (List.range text.size).map fun i => if i < k then ((xb key nonce c text i : Nat) : Int) else ((by8 text i : Nat) : Int)
theorem xo_length (key nonce : ByteArray) (c : Nat) (text : ByteArray) (p : Nat) : (xo key nonce c text p).length = p := by simp [xo]
theorem xk_length (key nonce : ByteArray) (c : Nat) (text : ByteArray) (k : Nat) : (xk key nonce c text k).length = text.size := by simp [xk]
theorem xo_snoc (key nonce : ByteArray) (c : Nat) (text : ByteArray) (p : Nat) : xo key nonce c text (p + 1) = xo key nonce c text p ++ [((xb key nonce c text p : Nat) : Int)] := by
  simp [xo, List.range_succ]
theorem bytesOf_by8 (s : ByteArray) : bytesOf s = (List.range s.size).map fun i => ((by8 s i : Nat) : Int) := by
  apply List.ext_getElem
  · rw [bytesOf_length]; simp
  · intro i h1 h2
    have hi : i < s.size := by rw [bytesOf_length] at h1; exact h1
    have h3 := rd_bytesOf s (i : Int)
    unfold rd at h3
    rw [Int.toNat_natCast, List.getD_eq_getElem?_getD, List.getElem?_eq_getElem h1] at h3
    simp only [Option.getD_some] at h3
    rw [h3, bt_by8]
    simp
theorem xk_zero (key nonce : ByteArray) (c : Nat) (text : ByteArray) : xk key nonce c text 0 = bytesOf text := by
  rw [bytesOf_by8]
  unfold xk
  simp
theorem xk_all (key nonce : ByteArray) (c : Nat) (text : ByteArray) : xk key nonce c text text.size = xo key nonce c text text.size := by
  unfold xk xo
  apply List.map_congr_left
  intro i hi
  rw [if_pos (by simpa using hi)]
theorem xk_at (key nonce : ByteArray) (c : Nat) (text : ByteArray) (k : Nat) (h : k < text.size) : (xk key nonce c text k).getD k 0 = ((by8 text k : Nat) : Int) := by
  simp [xk, List.getD_eq_getElem?_getD, h]
theorem xk_set (key nonce : ByteArray) (c : Nat) (text : ByteArray) (k : Nat) : xk key nonce c text (k + 1) = (xk key nonce c text k).set k ((xb key nonce c text k : Nat) : Int) := by
  apply List.ext_getElem
  · simp [xk]
  · intro i h1 h2
    rw [List.getElem_set]
    simp only [xk, List.getElem_map, List.getElem_range]
    by_cases hik : k = i
    · subst hik; rw [if_pos rfl, if_pos (by omega)]
    · rw [if_neg hik]
      by_cases hlt : i < k
      · rw [if_pos hlt, if_pos (by omega)]
      · rw [if_neg hlt, if_neg (by omega)]
/-- What Xor returns. -/
def xs (key nonce : ByteArray) (c : Nat) (text : ByteArray) : ByteArray := strOfNums (xo key nonce c text text.size)
theorem xs_size (key nonce : ByteArray) (c : Nat) (text : ByteArray) : (xs key nonce c text).size = text.size := by unfold xs; rw [strOfNums_size, xo_length]
theorem by8_get (s : ByteArray) (i : Nat) (h : i < s.size) : by8 s i = (s[i]'h).toNat := by
  unfold by8 bt
  simp [h]
theorem by8_nums (l : List Int) (i : Nat) (h : i < l.length) : by8 (strOfNums l) i = (l[i]).toNat % 256 := by
  rw [by8_get _ _ (by rw [strOfNums_size]; exact h)]
  simp only [strOfNums, ByteArray.getElem_eq_getElem_data, List.getElem_toArray, List.getElem_map, UInt8.toNat_ofNat']
theorem by8_xs (key nonce : ByteArray) (c : Nat) (text : ByteArray) (i : Nat) (h : i < text.size) : by8 (xs key nonce c text) i = xb key nonce c text i := by
  unfold xs
  rw [by8_nums _ _ (by rw [xo_length]; exact h)]
  simp only [xo, List.getElem_map, List.getElem_range, Int.toNat_natCast]
  exact Nat.mod_eq_of_lt (xb_lt _ _ _ _ _)
theorem bytes_ext {a b : ByteArray} (hs : a.size = b.size) (h : ∀ i, i < a.size → by8 a i = by8 b i) : a = b := by
  apply ByteArray.ext_getElem hs
  intro i h1 h2
  have h3 := h i h1
  rw [by8_get a i h1, by8_get b i h2] at h3
  exact UInt8.toNat_inj.1 h3
theorem xor_twice (a b : Nat) : a ^^^ b ^^^ b = a := by rw [Nat.xor_assoc, Nat.xor_self, Nat.xor_zero]
/-- Twice the same stream gives the text back. -/
theorem xs_twice (key nonce : ByteArray) (c : Nat) (text : ByteArray) : xs key nonce c (xs key nonce c text) = text := by
  apply bytes_ext
  · rw [xs_size, xs_size]
  · intro i hi
    rw [xs_size, xs_size] at hi
    rw [by8_xs _ _ _ _ _ (by rw [xs_size]; exact hi)]
    unfold xb
    rw [by8_xs _ _ _ _ _ hi]
    unfold xb
    exact xor_twice _ _
theorem by8_cut (s : ByteArray) (o e i : Nat) (he : e ≤ s.size) (h : o + i < e) : by8 (s.extract o e) i = by8 s (o + i) := by
  rw [by8_get _ _ (by simp; omega), by8_get _ _ (by omega)]
  simp [ByteArray.getElem_extract]
theorem ks_later (key nonce : ByteArray) (c n i : Nat) : ks key nonce ((c + n) % 4294967296) i = ks key nonce c (64 * n + i) := by
  unfold ks
  rw [show (64 * n + i) / 64 = n + i / 64 by omega, show (64 * n + i) % 64 = i % 64 by omega, show ((c + n) % 4294967296 + i / 64) % 4294967296 = (c + (n + i / 64)) % 4294967296 by omega]
/-- What stands behind n blocks is encrypted as it is alone. -/
theorem xs_seek (key nonce : ByteArray) (c : Nat) (text : ByteArray) (n : Nat) (h : 64 * n ≤ text.size) : (xs key nonce c text).extract (64 * n) text.size = xs key nonce ((c + n) % 4294967296) (text.extract (64 * n) text.size) := by
  apply bytes_ext
  · rw [xs_size]; simp [xs_size]
  · intro i hi
    have hi' : 64 * n + i < text.size := by
      simp [xs_size] at hi
      omega
    rw [by8_cut _ _ _ _ (by rw [xs_size]; exact Nat.le_refl _) hi', by8_xs _ _ _ _ _ hi', by8_xs _ _ _ _ _ (by simp; omega)]
    unfold xb
    rw [ks_later, by8_cut _ _ _ _ (Nat.le_refl _) hi']
/-- A prefix's result is the result's prefix. -/
theorem xs_take (key nonce : ByteArray) (c : Nat) (text : ByteArray) (n : Nat) (h : n ≤ text.size) : xs key nonce c (text.extract 0 n) = (xs key nonce c text).extract 0 n := by
  apply bytes_ext
  · rw [xs_size]; simp [xs_size]
  · intro i hi
    rw [xs_size] at hi
    have hi' : i < n := by
      simp at hi
      omega
    rw [by8_xs _ _ _ _ _ hi, by8_cut _ _ _ _ (by rw [xs_size]; exact h) (by omega), Nat.zero_add, by8_xs _ _ _ _ _ (by omega)]
    unfold xb
    rw [by8_cut _ _ _ _ h (by omega), Nat.zero_add]
/-- The difference of two results is the texts' difference. -/
theorem xs_diff (key nonce : ByteArray) (c : Nat) (a b : ByteArray) (i : Nat) (ha : i < a.size) (hb : i < b.size) : by8 (xs key nonce c a) i ^^^ by8 (xs key nonce c b) i = by8 a i ^^^ by8 b i := by
  rw [by8_xs _ _ _ _ _ ha, by8_xs _ _ _ _ _ hb]
  unfold xb
  rw [Nat.xor_assoc, Nat.xor_comm (by8 b i), ← Nat.xor_assoc (ks key nonce c i), Nat.xor_self, Nat.zero_xor]
end Go.Proofs.Ytpojbjldboknmaa.Xp
