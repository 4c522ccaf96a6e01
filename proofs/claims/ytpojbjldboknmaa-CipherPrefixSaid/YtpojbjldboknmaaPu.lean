/-
  The inverse rounds lead back.
-/
import Derived.Test.YtpojbjldboknmaaRu
namespace Go.Proofs.Ytpojbjldboknmaa.Pu
open Go.Proofs.Ytpojbjldboknmaa.Ra Go.Proofs.Ytpojbjldboknmaa.Qa Go.Proofs.Ytpojbjldboknmaa.Qb Go.Proofs.Ytpojbjldboknmaa.Ro Go.Proofs.Ytpojbjldboknmaa.Ru

theorem gt_same {l : List Nat} (i v : Nat) (hi : i < l.length) : gt (l.set i v) i = v := by simp [gt, hi]
theorem gt_far {l : List Nat} (i j v : Nat) (hne : i ≠ j) : gt (l.set i v) j = gt l j := by simp [gt, List.getD_eq_getElem?_getD, List.getElem?_set_ne hne]
theorem set_back {l : List Nat} (i v : Nat) (hi : i < l.length) : (l.set i v).set i (gt l i) = l := by
  rw [List.set_set]
  have h : gt l i = l[i] := by simp [gt, hi]
  rw [h, List.set_getElem_self]
theorem turn_undone {l : List Nat} (hl : Fit l) (i j n : Nat) (hi : i < 16) (hne : i ≠ j) (hn : n ∈ [7, 8, 12, 16]) : turnBack (turnTo l i j n) i j (32 - n) = l := by
  have hil : i < l.length := by rw [hl.1]; exact hi
  unfold turnBack turnTo
  rw [gt_same _ _ hil, gt_far _ _ _ hne, rot_back _ _ (xor_lt32 _ _ (gt_lt hl i) (gt_lt hl j)) hn, Nat.xor_assoc, Nat.xor_self, Nat.xor_zero, set_back i _ hil]
theorem add_undone {l : List Nat} (hl : Fit l) (i j : Nat) (hi : i < 16) (hne : i ≠ j) : subFrom (addTo l i j) i j = l := by
  have hil : i < l.length := by rw [hl.1]; exact hi
  have h1 := gt_lt hl i
  have h2 := gt_lt hl j
  unfold subFrom addTo
  rw [gt_same _ _ hil, gt_far _ _ _ hne, show ((gt l i + gt l j) % 4294967296 + (4294967296 - gt l j)) % 4294967296 = gt l i by omega, set_back i _ hil]
theorem un_qr {l : List Nat} (hl : Fit l) (a b c d : Nat) (ha : a < 16) (hb : b < 16) (hc : c < 16) (hd : d < 16) (hab : a ≠ b) (hda : d ≠ a) (hcd : c ≠ d) (hbc : b ≠ c) : un (qr l a b c d) a b c d = l := by
  have f1 := addTo_fit hl a b
  have f2 := turnTo_fit f1 d a 16 (by decide)
  have f3 := addTo_fit f2 c d
  have f4 := turnTo_fit f3 b c 12 (by decide)
  have f5 := addTo_fit f4 a b
  have f6 := turnTo_fit f5 d a 8 (by decide)
  have f7 := addTo_fit f6 c d
  unfold un qr
  rw [show (25 : Nat) = 32 - 7 from rfl, turn_undone f7 b c 7 hb hbc (by decide), add_undone f6 c d hc hcd, show (24 : Nat) = 32 - 8 from rfl, turn_undone f5 d a 8 hd hda (by decide), add_undone f4 a b ha hab,
    show (20 : Nat) = 32 - 12 from rfl, turn_undone f3 b c 12 hb hbc (by decide), add_undone f2 c d hc hcd, show (turnBack (turnTo (addTo l a b) d a 16) d a 16) = addTo l a b from turn_undone f1 d a 16 hd hda (by decide), add_undone hl a b ha hab]
theorem ord_apart : ∀ k, k < 8 → oa k ≠ ob k ∧ od k ≠ oa k ∧ oc k ≠ od k ∧ ob k ≠ oc k := by decide
theorem unr_inr {l : List Nat} (hl : Fit l) : ∀ j, j ≤ 8 → unr (inr l 8) j = inr l (8 - j)
  | 0, _ => rfl
  | j + 1, h => by
    obtain ⟨h1, h2, h3, h4⟩ := ord_apart (7 - j) (by omega)
    rw [unr, unr_inr hl j (by omega), show 8 - j = (7 - j) + 1 by omega, inr, un_qr (inr_fit hl _) _ _ _ _ (oa_lt _) (ob_lt _) (oc_lt _) (od_lt _) h1 h2 h3 h4, show 8 - (j + 1) = 7 - j by omega]
theorem udn_dn {l : List Nat} (hl : Fit l) (n : Nat) : ∀ i, i ≤ n → udn (dn l n) i = dn l (n - i)
  | 0, _ => rfl
  | i + 1, h => by
    rw [udn, udn_dn hl n i (by omega), show n - i = (n - (i + 1)) + 1 by omega, dn, unr_inr (dn_fit hl _) 8 (Nat.le_refl _)]
    rfl
theorem undone {l : List Nat} (hl : Fit l) : udn (dn l 10) 10 = l := udn_dn hl 10 10 (Nat.le_refl _)
end Go.Proofs.Ytpojbjldboknmaa.Pu
