/-
  What the specification's functions on polynomials compute.
-/
import Derived.Test.YtgijeelednmmkaaPAllx10
import Derived.Test.YtgijeelednmmkaaGf
import Derived.Test.YtgijeelednmmkaaR
namespace Go.Proofs.Ytgijeelednmmkaa.R2
open Go.RowKit Go.Proofs.Ytgijeelednmmkaa.M Go.Proofs.Ytgijeelednmmkaa.Wb Go.Proofs.Ytgijeelednmmkaa.Wc Go.Proofs.Ytgijeelednmmkaa.Wd Go.Proofs.Ytgijeelednmmkaa.We Go.Proofs.Ytgijeelednmmkaa.G Go.Proofs.Ytgijeelednmmkaa.Gp Go.Proofs.Ytgijeelednmmkaa.Gq Go.Proofs.Ytgijeelednmmkaa.Gl Go.Proofs.Ytgijeelednmmkaa.Gf Go.Proofs.Ytgijeelednmmkaa.PAll Go.Proofs.YtgijeelednmmkaaW.PrintWords Go.Proofs.YtgijeelednmmkaaW.PrintLast

/-! ### With enough rounds -/
def Ends {α : Type} (g : Nat → Option α) (r : α) : Prop := ∃ K, ∀ k, K ≤ k → g k = some r
section
variable {α β : Type} {g g' : Nat → Option α} {r : α}
theorem Ends.step (h : Ends g' r) (e : ∀ k, g (k + 1) = g' k) : Ends g r := by
  obtain ⟨K, hK⟩ := h
  refine ⟨K + 1, fun k hk => ?_⟩
  obtain ⟨k, rfl⟩ : ∃ m, k = m + 1 := ⟨k - 1, by omega⟩
  rw [e k]
  exact hK k (by omega)
theorem Ends.bind {b : β} {h : α → Nat → Option β} (h1 : Ends g r) (h2 : Ends (h r) b) : Ends (fun k => (g k).bind fun x => h x k) b := by
  obtain ⟨K, hK⟩ := h1
  obtain ⟨J, hJ⟩ := h2
  exact ⟨max K J, fun k hk => by
    show (g k).bind _ = _
    rw [hK k (by omega), Option.bind_some, hJ k (by omega)]⟩
theorem Ends.const (r : α) : Ends (fun _ => some r) r := ⟨0, fun _ _ => rfl⟩
theorem Ends.eq (h : Ends g r) (e : ∀ k, g' k = g k) : Ends g' r := by
  obtain ⟨K, hK⟩ := h
  exact ⟨K, fun k hk => by rw [e k, hK k hk]⟩
end
theorem mul_ends (a b : Nat) (ha : a < 256) (hb : b < 256) : Ends (fun k => custodyref06_Mul.f k (a : Int) (b : Int)) ((mul a b : Nat) : Int) := ⟨9, fun k hk => R.ref_mul a b k ha hb (by omega)⟩
theorem div_ends (a b : Nat) (ha : a < 256) (hb : b < 256) : Ends (fun k => custodyref06_Div.f k (a : Int) (b : Int)) (((dvs a b : Nat) : Int), dve b) := ⟨264, fun k hk => R.ref_div a b k ha hb (by omega)⟩
theorem next (i : Nat) (h : i ≤ 1000) : wrap64 ((i : Int) + 1) = ((i + 1 : Nat) : Int) := by unfold wrap64; omega
theorem sm_succ (f : Nat → Nat) (n : Nat) : sm f (n + 1) = sm f n ^^^ f n := rfl

/-! ### distinct -/
theorem rd_eq {l : List Int} (_hb : Bytes l) (i j : Nat) (hi : i < l.length) (hj : j < l.length) : (rd l (i : Int) = rd l (j : Int)) ↔ l[i] = l[j] := by
  simp [rd, hi, hj]
theorem take_nodup (l : List Int) (i : Nat) (hi : i < l.length) (h : (l.take i).Nodup) (hn : ∀ m (hm : m < i), l[i] ≠ l[m]'(by omega)) : (l.take (i + 1)).Nodup := by
  rw [List.take_succ_eq_append_getElem hi, List.nodup_append]
  refine ⟨h, by simp, fun a ha b hb e => ?_⟩
  have hb' : b = l[i] := by simpa using hb
  obtain ⟨m, hm, e2⟩ := List.mem_iff_getElem.1 ha
  have hm' : m < i := by simp at hm; omega
  rw [List.getElem_take] at e2
  exact hn m hm' (by rw [e2, e, hb'])
mutual
theorem distinct_l0 (l : List Int) (hb : Bytes l) (hl : l.length ≤ 255) (i : Nat) (hi : i ≤ l.length) (h : (l.take i).Nodup) : Ends (fun k => custodyref06_distinct.l0 k l (i : Int)) (decide l.Nodup) := by
  by_cases hlt : i < l.length
  · refine (distinct_l1 l hb hl i hlt h 0 (Nat.zero_le _) (fun m hm => absurd hm (by omega))).step (fun k => ?_)
    simp only [custodyref06_distinct.l0]
    rw [if_pos (by omega)]; rfl
  · obtain rfl : i = l.length := by omega
    rw [List.take_length] at h
    refine (Ends.const true).step (fun k => ?_) |>.eq (fun _ => rfl) |> fun e => by rw [decide_eq_true h]; exact e
    simp only [custodyref06_distinct.l0]
    rw [if_neg (by omega)]
termination_by (l.length - i, l.length + 1)
theorem distinct_l1 (l : List Int) (hb : Bytes l) (hl : l.length ≤ 255) (i : Nat) (hi : i < l.length) (h : (l.take i).Nodup) (j : Nat) (hj : j ≤ i) (hn : ∀ m (_ : m < j), l[i] ≠ l[m]'(by omega)) : Ends (fun k => custodyref06_distinct.l1 k l (i : Int) (j : Int)) (decide l.Nodup) := by
  by_cases hlt : j < i
  · by_cases e : l[i] = l[j]
    · have hd : ¬ l.Nodup := fun hnd => by
        have := List.pairwise_iff_getElem.1 (List.nodup_iff_pairwise_ne.1 hnd) j i (by omega) hi hlt
        exact this e.symm
      refine (Ends.const false).step (fun k => ?_) |>.eq (fun _ => rfl) |> fun e => by rw [decide_eq_false hd]; exact e
      simp only [custodyref06_distinct.l1]
      rw [if_pos (by omega), if_pos (by omega), if_pos (by omega), if_pos (by omega), if_pos (by omega), if_pos ((rd_eq hb i j hi (by omega)).2 e)]
    · refine (distinct_l1 l hb hl i hi h (j + 1) (by omega) (fun m hm => ?_)).step (fun k => ?_)
      · by_cases em : m = j
        · subst em; exact e
        · exact hn m (by omega)
      · simp only [custodyref06_distinct.l1]
        rw [if_pos (by omega), if_pos (by omega), if_pos (by omega), if_pos (by omega), if_pos (by omega), if_neg (fun e2 => e ((rd_eq hb i j hi (by omega)).1 e2)), next j (by omega)]
  · obtain rfl : j = i := by omega
    refine (distinct_l0 l hb hl (j + 1) (by omega) (take_nodup l j hi h hn)).step (fun k => ?_)
    simp only [custodyref06_distinct.l1]
    rw [if_neg (by omega), next j (by omega)]
termination_by (l.length - i, i - j)
end
theorem distinct_ends (l : List Int) (hb : Bytes l) : Ends (fun k => custodyref06_distinct.f k l) (dist l) := by
  by_cases h0 : l.length = 0
  · have hd : dist l = false := by simp [dist, h0]
    rw [hd]
    refine Ends.eq ((Ends.const false).step (g := fun k => custodyref06_distinct.j0 k l true) (fun k => by simp [custodyref06_distinct.j0])) (fun k => ?_)
    unfold custodyref06_distinct.f
    rw [if_pos (by omega)]
  · by_cases h1 : 255 < l.length
    · have hd : dist l = false := by simp [dist]; omega
      rw [hd]
      refine Ends.eq ((Ends.const false).step (g := fun k => custodyref06_distinct.j0 k l true) (fun k => by simp [custodyref06_distinct.j0])) (fun k => ?_)
      unfold custodyref06_distinct.f
      rw [if_neg (by omega), decide_eq_true (by omega)]
    · have hd : dist l = decide l.Nodup := by
        have a1 : decide (1 ≤ l.length) = true := decide_eq_true (by omega)
        have a2 : decide (l.length ≤ 255) = true := decide_eq_true (by omega)
        rw [dist, a1, a2]; simp
      rw [hd]
      refine Ends.eq ((distinct_l0 l hb (by omega) 0 (Nat.zero_le _) (by simp)).step (g := fun k => custodyref06_distinct.j0 k l false) (fun k => by simp [custodyref06_distinct.j0])) (fun k => ?_)
      unfold custodyref06_distinct.f
      rw [if_neg (by omega), decide_eq_false (by omega)]

/-! ### Weights, Interpolate, Eval -/
theorem xor_rd {l : List Int} (hb : Bytes l) (x i : Nat) (hx : x < 256) : Go.bits .xor .u8 (x : Int) (rd l (i : Int)) = ((x ^^^ nb l i : Nat) : Int) := by
  rw [nb_rd hb, u8_xor_nat _ _ hx (nb_lt hb i)]
mutual
theorem weights_l0 (l : List Int) (x : Nat) (hx : x < 256) (hb : Bytes l) (hl : l.length ≤ 255) (i : Nat) (hi : i ≤ l.length) : Ends (fun k => custodyref06_Weights.l0 k l (x : Int) (L (wt l x) i) (i : Int)) (wts l x, 0) := by
  by_cases hlt : i < l.length
  · refine (weights_l1 l x hx hb hl i hlt 0 (Nat.zero_le _)).step (fun k => ?_)
    simp only [custodyref06_Weights.l0]
    rw [if_pos (by omega)]; rfl
  · obtain rfl : i = l.length := by omega
    refine (Ends.const (wts l x, (0 : Int))).step (fun k => ?_)
    simp only [custodyref06_Weights.l0]
    rw [if_neg (by omega)]; rfl
termination_by (l.length - i, l.length + 1)
theorem weights_l1 (l : List Int) (x : Nat) (hx : x < 256) (hb : Bytes l) (hl : l.length ≤ 255) (i : Nat) (hi : i < l.length) (j : Nat) (hj : j ≤ l.length) : Ends (fun k => custodyref06_Weights.l1 k l (x : Int) (L (wt l x) i) (i : Int) ((prodTo l i x j : Nat) : Int) ((prodTo l i (nb l i) j : Nat) : Int) (j : Int)) (wts l x, 0) := by
  have h1 := prodTo_lt l i x j
  have h2 := prodTo_lt l i (nb l i) j
  by_cases hlt : j < l.length
  · by_cases e : j = i
    · have ih := weights_l1 l x hx hb hl i hi (j + 1) (by omega)
      rw [prodTo, if_pos e, prodTo, if_pos e] at ih
      refine ih.step (fun k => ?_)
      simp only [custodyref06_Weights.l1]
      rw [if_pos (by omega), if_pos (by omega), next j (by omega)]
    · have ih := weights_l1 l x hx hb hl i hi (j + 1) (by omega)
      rw [prodTo, if_neg e, prodTo, if_neg e] at ih
      refine Ends.step (Ends.bind (mul_ends _ _ h1 (xor_lt _ _ hx (nb_lt hb j))) (h := fun t125 k => (custodyref06_Mul.f k ((prodTo l i (nb l i) j : Nat) : Int) ((nb l i ^^^ nb l j : Nat) : Int)).bind fun t128 => custodyref06_Weights.l1 k l (x : Int) (L (wt l x) i) (i : Int) t125 t128 ((j + 1 : Nat) : Int)) (Ends.bind (mul_ends _ _ h2 (xor_lt _ _ (nb_lt hb i) (nb_lt hb j))) ih)) (fun k => ?_)
      have c1 : (0 : Int) ≤ (i : Int) := by omega
      have c2 : (i : Int) < (l.length : Int) := by omega
      simp only [custodyref06_Weights.l1]
      rw [if_pos (by omega), if_neg (by omega), if_pos (by omega), next j (by omega), xor_rd hb x j hx, nb_rd hb i, xor_rd hb (nb l i) j (nb_lt hb i)]
      simp only [if_pos c1, if_pos c2]
  · obtain rfl : j = l.length := by omega
    have ih := weights_l0 l x hx hb hl (i + 1) (by omega)
    refine Ends.step (Ends.bind (div_ends _ _ h1 h2) (h := fun bt119 k => custodyref06_Weights.l0 k l (x : Int) (L (wt l x) i ++ [bt119.1]) ((i + 1 : Nat) : Int)) (ih.eq (fun k => ?_))) (fun k => ?_)
    · rw [← L_next]; rfl
    · simp only [custodyref06_Weights.l1]
      rw [if_neg (by omega), next i (by omega)]
      congr 1
      funext bt
      rw [if_pos (by rw [L_length]; omega)]
termination_by (l.length - i, l.length - j)
end
theorem weights_ends (l : List Int) (x : Nat) (hx : x < 256) (hb : Bytes l) : Ends (fun k => custodyref06_Weights.f k l (x : Int)) (if dist l = true then (wts l x, 0) else ([], 1)) := by
  refine Ends.eq (Ends.bind (distinct_ends l hb) (h := fun t118 k => if t118 = true then (custodyref06_Weights.l0 k l (x : Int) ([] : List Int) 0) else (some (([] : List Int), 1))) ?_) (fun k => rfl)
  cases hd : dist l with
  | true =>
    have hl : l.length ≤ 255 := by simp [dist] at hd; omega
    simp only [if_true]
    exact weights_l0 l x hx hb hl 0 (Nat.zero_le _)
  | false =>
    simp only [Bool.false_eq_true, if_false]
    exact Ends.const _

theorem interp_l0 (ws ys : List Int) (hw : Bytes ws) (hy : Bytes ys) (hl : ws.length = ys.length) (h255 : ws.length ≤ 255) : ∀ (d i : Nat), i + d = ws.length → Ends (fun k => custodyref06_Interpolate.l0 k ys ws ((sumTo ws ys i : Nat) : Int) (i : Int)) (((sumTo ws ys ys.length : Nat) : Int), 0)
  | 0, i, h => by
    obtain rfl : i = ws.length := by omega
    rw [← hl]
    refine (Ends.const _).step (fun k => ?_)
    simp only [custodyref06_Interpolate.l0]
    rw [if_neg (by omega)]
  | d + 1, i, h => by
    have ih := interp_l0 ws ys hw hy hl h255 d (i + 1) (by omega)
    refine Ends.step (Ends.bind (mul_ends _ _ (nb_lt hw i) (nb_lt hy i)) (h := fun t135 k => custodyref06_Interpolate.l0 k ys ws (Go.bits .xor .u8 ((sumTo ws ys i : Nat) : Int) t135) ((i + 1 : Nat) : Int)) (ih.eq (fun k => ?_))) (fun k => ?_)
    · rw [u8_xor_nat _ _ (sumTo_lt ws ys hw i) (mul_lt _ _ (nb_lt hw i))]; rfl
    · simp only [custodyref06_Interpolate.l0]
      rw [if_pos (by omega), if_pos (by omega), if_pos (by omega), next i (by omega), nb_rd hw, nb_rd hy]
theorem interp_ends (l ys : List Int) (x : Nat) (hx : x < 256) (hb : Bytes l) (hy : Bytes ys) : Ends (fun k => custodyref06_Interpolate.f k l ys (x : Int)) (if dist l = true ∧ l.length = ys.length then (((sumTo (wts l x) ys ys.length : Nat) : Int), 0) else (0, 1)) := by
  have hj : ∀ ws, Ends (fun k => custodyref06_Interpolate.j0 k ys ws true) ((0 : Int), (1 : Int)) := fun ws => (Ends.const _).step (fun k => by simp [custodyref06_Interpolate.j0])
  refine Ends.eq (Ends.bind (weights_ends l x hx hb) (h := fun bt129 k => if bt129.2 = 0 then (custodyref06_Interpolate.j0 k ys bt129.1 ((l.length : Int) != (ys.length : Int))) else (custodyref06_Interpolate.j0 k ys bt129.1 true)) ?_) (fun k => rfl)
  by_cases hd : dist l = true
  · have hln : l.length ≤ 255 := by simp [dist] at hd; omega
    have hwl : (wts l x).length = l.length := by simp [wts]
    rw [if_pos hd]
    simp only [if_true]
    by_cases he : l.length = ys.length
    · rw [if_pos ⟨hd, he⟩]
      have e : ((l.length : Int) != (ys.length : Int)) = false := by simp; omega
      rw [e]
      refine (interp_l0 (wts l x) ys (wts_bytes l x) hy (by omega) (by omega) l.length 0 (by omega)).step (fun k => ?_)
      simp only [custodyref06_Interpolate.j0]
      rfl
    · rw [if_neg (fun h => he h.2)]
      have e : ((l.length : Int) != (ys.length : Int)) = true := by simp; omega
      rw [e]
      exact hj _
  · rw [if_neg hd, if_neg (fun h => hd h.1)]
    exact hj _

theorem L_nb {l : List Int} (hb : Bytes l) : L (nb l) l.length = l := by
  apply List.ext_getElem
  · simp [L_length]
  · intro i h1 h2
    have h3 := hb _ (List.getElem_mem h2)
    have h4 : nb l i = l[i].toNat := (nb_mem i h2).symm
    simp only [L, List.getElem_map, List.getElem_range, h4]
    omega
theorem ev_nb {l : List Int} (hb : Bytes l) (x : Nat) (hx : x < 256) : ev x l = vl (nb l) x l.length := by
  have h := ev_L (f := nb l) (fun j => nb_lt hb j) x hx l.length
  rwa [L_nb hb] at h
theorem eval_l0 (l : List Int) (x : Nat) (hx : x < 256) (hb : Bytes l) (hl : l.length ≤ 255) : ∀ (d i : Nat), i + d = l.length → Ends (fun k => custodyref06_Eval.l0 k l (x : Int) ((vl (nb l) x i : Nat) : Int) ((pw x i : Nat) : Int) (i : Int)) ((ev x l : Nat) : Int)
  | 0, i, h => by
    obtain rfl : i = l.length := by omega
    rw [ev_nb hb x hx]
    refine (Ends.const _).step (fun k => ?_)
    simp only [custodyref06_Eval.l0]
    rw [if_neg (by omega)]
  | d + 1, i, h => by
    have ih := eval_l0 l x hx hb hl d (i + 1) (by omega)
    refine Ends.step (Ends.bind (mul_ends _ _ (nb_lt hb i) (pw_lt x i)) (h := fun t168 k => (custodyref06_Mul.f k ((pw x i : Nat) : Int) (x : Int)).bind fun t169 => custodyref06_Eval.l0 k l (x : Int) (Go.bits .xor .u8 ((vl (nb l) x i : Nat) : Int) t168) t169 ((i + 1 : Nat) : Int)) (Ends.bind (mul_ends _ _ (pw_lt x i) hx) (ih.eq (fun k => ?_)))) (fun k => ?_)
    · rw [u8_xor_nat _ _ (vl_lt (fun j => nb_lt hb j) x i) (mul_lt _ _ (nb_lt hb i))]; rfl
    · simp only [custodyref06_Eval.l0]
      rw [if_pos (by omega), if_pos (by omega), next i (by omega), nb_rd hb]
theorem eval_ends (l : List Int) (x : Nat) (hx : x < 256) (hb : Bytes l) (hl : l.length ≤ 255) : Ends (fun k => custodyref06_Eval.f k l (x : Int)) ((ev x l : Nat) : Int) := eval_l0 l x hx hb hl l.length 0 (by omega)

/-! ### Coefficients -/
theorem L_setx (f : Nat → Nat) (n k v : Nat) : (L f n).set k (v : Int) = L (fun j => if j = k then v else f j) n := L_set f n k v
theorem L_rd {f : Nat → Nat} {n j : Nat} (h : j < n) : rd (L f n) (j : Int) = ((f j : Nat) : Int) := by simp [rd, L, h]
/-- The product's coefficients after i rounds. -/
def tmTo (f : Nat → Nat) (a i : Nat) : Nat → Nat := fun j => if j < i then tm f a j else if j = i then (if i = 0 then 0 else f (i - 1)) else 0
theorem tmTo_lt {f : Nat → Nat} {a i j : Nat} (h : j < i) : tmTo f a i j = tm f a j := by unfold tmTo; rw [if_pos h]
theorem tmTo_at (f : Nat → Nat) (a i : Nat) : tmTo f a i i = if i = 0 then 0 else f (i - 1) := by unfold tmTo; rw [if_neg (by omega), if_pos rfl]
theorem tmTo_gt {f : Nat → Nat} {a i j : Nat} (h : i < j) : tmTo f a i j = 0 := by unfold tmTo; rw [if_neg (by omega), if_neg (by omega)]
theorem times_l0 (f : Nat → Nat) (m a : Nat) (hf : ∀ j, f j < 256) (ha : a < 256) (hm : m ≤ 255) (hz : f m = 0) : ∀ (d i : Nat), i + d = m → Ends (fun k => custodyref06_times.l0 k (L f m) (a : Int) (L (tmTo f a i) (m + 1)) (i : Int)) (L (tm f a) (m + 1))
  | 0, i, h => by
    obtain rfl : i = m := by omega
    have e : L (tmTo f a i) (i + 1) = L (tm f a) (i + 1) := L_same (fun j hj => by
      by_cases h1 : j < i
      · rw [tmTo_lt h1]
      · obtain rfl : j = i := by omega
        rw [tmTo_at]
        unfold tm
        by_cases h2 : j = 0
        · subst h2; rw [if_pos rfl, if_pos rfl, hz, zero_mul]
        · rw [if_neg h2, if_neg h2, hz, zero_mul, Nat.xor_zero])
    rw [e]
    refine (Ends.const _).step (fun k => ?_)
    simp only [custodyref06_times.l0]
    rw [if_neg (by rw [L_length]; omega)]
  | d + 1, i, h => by
    have ih := times_l0 f m a hf ha hm hz d (i + 1) (by omega)
    have l1 : (if i = 0 then 0 else f (i - 1)) < 256 := by split <;> first | omega | exact hf _
    have e1 : Go.bits .xor .u8 (rd (L (tmTo f a i) (m + 1)) ((i + 1 : Nat) : Int)) (rd (L f m) (i : Int)) = ((f i : Nat) : Int) := by
      rw [L_rd (by omega), L_rd (by omega)]
      rw [tmTo_gt (by omega), u8_xor_nat 0 _ (by omega) (hf i), Nat.zero_xor]
    refine Ends.step (Ends.bind (mul_ends _ _ (hf i) ha) (h := fun t144 k => custodyref06_times.l0 k (L f m) (a : Int) ((L (fun j => if j = i + 1 then f i else tmTo f a i j) (m + 1)).set i (Go.bits .xor .u8 (rd (L (fun j => if j = i + 1 then f i else tmTo f a i j) (m + 1)) (i : Int)) t144)) ((i + 1 : Nat) : Int)) (ih.eq (fun k => ?_))) (fun k => ?_)
    · congr 1
      have e2 : (if i = i + 1 then f i else tmTo f a i i) = if i = 0 then 0 else f (i - 1) := by
        rw [if_neg (by omega), tmTo_at]
      have e3 : rd (L (fun j => if j = i + 1 then f i else tmTo f a i j) (m + 1)) (i : Int) = (((if i = 0 then 0 else f (i - 1)) : Nat) : Int) := by rw [L_rd (by omega), e2]
      rw [e3, u8_xor_nat _ _ l1 (mul_lt _ _ (hf i)), L_setx]
      refine L_same (fun j hj => ?_)
      show (if j = i then (if i = 0 then 0 else f (i - 1)) ^^^ mul (f i) a else if j = i + 1 then f i else tmTo f a i j) = tmTo f a (i + 1) j
      by_cases h1 : j = i
      · subst h1
        rw [if_pos rfl, tmTo_lt (by omega), tm]
        by_cases h2 : j = 0
        · subst h2; rw [if_pos rfl, if_pos rfl, Nat.zero_xor]
        · rw [if_neg h2, if_neg h2]
      · rw [if_neg h1]
        by_cases h3 : j = i + 1
        · subst h3
          rw [if_pos rfl, tmTo_at, if_neg (by omega), Nat.add_sub_cancel]
        · rw [if_neg h3]
          by_cases h4 : j < i
          · rw [tmTo_lt h4, tmTo_lt (by omega)]
          · rw [tmTo_gt (by omega), tmTo_gt (by omega)]
    · simp only [custodyref06_times.l0]
      rw [if_pos (by rw [L_length]; omega), next i (by omega), if_pos (by omega), if_pos (by rw [L_length]; omega), if_pos (by omega), e1, Option.bind_some, if_pos (by rw [L_length]; omega), Int.toNat_natCast, Int.toNat_natCast, L_setx, L_rd (by omega)]
theorem times_ends (f : Nat → Nat) (m a : Nat) (hf : ∀ j, f j < 256) (ha : a < 256) (hm : m ≤ 255) (hz : f m = 0) : Ends (fun k => custodyref06_times.f k (L f m) (a : Int)) (L (tm f a) (m + 1)) := by
  refine (times_l0 f m a hf ha hm hz m 0 (by omega)).eq (fun k => ?_)
  unfold custodyref06_times.f
  rw [L_length, next m (by omega), if_pos (by omega), if_pos (by omega), Int.toNat_natCast, ← L_nought]
  congr 1
  exact L_same (fun j _ => by unfold tmTo; rw [if_neg (by omega)]; split <;> rfl)
/-- The coefficients after i points, and within the next one. -/
def lgTo (l ys : List Int) (i : Nat) : Nat → Nat := fun j => sm (fun q => mul (pc l q l.length j) (fq l ys q)) i
def lgIn (l ys : List Int) (i k : Nat) : Nat → Nat := fun j => if j < k then lgTo l ys (i + 1) j else lgTo l ys i j
theorem lgTo_lt (l ys : List Int) (i j : Nat) : lgTo l ys i j < 256 := sm_lt (fun q => mul_lt _ _ (pc_lt l q l.length j)) i
theorem fac_n (i : Nat) : ∀ n, fac i n = if i < n then n - 1 else n
  | 0 => by rw [fac, if_neg (by omega)]
  | n + 1 => by
    rw [fac, fac_n i n]
    by_cases h : n = i
    · rw [if_pos h, if_neg (by omega), if_pos (by omega)]; omega
    · rw [if_neg h]
      by_cases h2 : i < n
      · rw [if_pos h2, if_pos (by omega)]; omega
      · rw [if_neg h2, if_neg (by omega)]
mutual
theorem coef_l0 (l ys : List Int) (hb : Bytes l) (hy : Bytes ys) (hl : l.length ≤ 255) (he : l.length = ys.length) (i : Nat) (hi : i ≤ l.length) : Ends (fun k => custodyref06_Coefficients.l0 k l ys (L (lgTo l ys i) l.length) (i : Int)) (L (lg l ys) l.length, 0) := by
  by_cases hlt : i < l.length
  · refine (coef_l1 l ys hb hy hl he i hlt 0 (Nat.zero_le _)).step (fun k => ?_)
    simp only [custodyref06_Coefficients.l0]
    rw [if_pos (by omega)]; rfl
  · obtain rfl : i = l.length := by omega
    refine (Ends.const (L (lg l ys) l.length, (0 : Int))).step (fun k => ?_)
    simp only [custodyref06_Coefficients.l0]
    rw [if_neg (by omega)]; rfl
termination_by (l.length - i, 2, 0)
theorem coef_l1 (l ys : List Int) (hb : Bytes l) (hy : Bytes ys) (hl : l.length ≤ 255) (he : l.length = ys.length) (i : Nat) (hi : i < l.length) (j : Nat) (hj : j ≤ l.length) :
    Ends (fun k => custodyref06_Coefficients.l1 k l ys (L (lgTo l ys i) l.length) (i : Int) (L (pc l i j) (fac i j + 1)) ((prodTo l i (nb l i) j : Nat) : Int) (j : Int)) (L (lg l ys) l.length, 0) := by
  have h2 := prodTo_lt l i (nb l i) j
  have hfj := (fac_le i j).1
  by_cases hlt : j < l.length
  · have ih := coef_l1 l ys hb hy hl he i hi (j + 1) (by omega)
    by_cases e : j = i
    · rw [prodTo, if_pos e, pc, if_pos e, fac, if_pos e] at ih
      refine ih.step (fun k => ?_)
      simp only [custodyref06_Coefficients.l1]
      rw [if_pos (by omega), if_pos (by omega), next j (by omega)]
    · rw [prodTo, if_neg e, pc, if_neg e, fac, if_neg e] at ih
      have c1 : (0 : Int) ≤ (i : Int) := by omega
      have c2 : (i : Int) < (l.length : Int) := by omega
      refine Ends.step (Ends.bind (times_ends (pc l i j) (fac i j + 1) (nb l j) (pc_lt l i j) (nb_lt hb j) (by omega) (pc_high l i j _ (by omega))) (h := fun t154 k => (custodyref06_Mul.f k ((prodTo l i (nb l i) j : Nat) : Int) ((nb l i ^^^ nb l j : Nat) : Int)).bind fun t159 => custodyref06_Coefficients.l1 k l ys (L (lgTo l ys i) l.length) (i : Int) t154 t159 ((j + 1 : Nat) : Int)) (Ends.bind (mul_ends _ _ h2 (xor_lt _ _ (nb_lt hb i) (nb_lt hb j))) ih)) (fun k => ?_)
      simp only [custodyref06_Coefficients.l1]
      rw [if_pos (by omega), if_neg (by omega), if_pos (by omega), next j (by omega), nb_rd hb i, xor_rd hb (nb l i) j (nb_lt hb i), nb_rd hb j]
      simp only [if_pos c1, if_pos c2]
  · obtain rfl : j = l.length := by omega
    have ih := coef_l2 l ys hb hy hl he i hi 0 (Nat.zero_le _)
    refine Ends.step (Ends.bind (div_ends _ _ (nb_lt hy i) h2) (h := fun bt k => custodyref06_Coefficients.l2 k l ys (L (lgTo l ys i) l.length) (i : Int) (L (pc l i l.length) (fac i l.length + 1)) bt.1 0) (ih.eq (fun k => ?_))) (fun k => ?_)
    · congr 1
    · simp only [custodyref06_Coefficients.l1]
      rw [if_neg (by omega), if_pos (by omega), if_pos (by omega), nb_rd hy i]
termination_by (l.length - i, 1, l.length - j)
theorem coef_l2 (l ys : List Int) (hb : Bytes l) (hy : Bytes ys) (hl : l.length ≤ 255) (he : l.length = ys.length) (i : Nat) (hi : i < l.length) (j : Nat) (hj : j ≤ l.length) :
    Ends (fun k => custodyref06_Coefficients.l2 k l ys (L (lgIn l ys i j) l.length) (i : Int) (L (pc l i l.length) (fac i l.length + 1)) ((fq l ys i : Nat) : Int) (j : Int)) (L (lg l ys) l.length, 0) := by
  have hfn : fac i l.length + 1 = l.length := by rw [fac_n, if_pos hi]; omega
  by_cases hlt : j < l.length
  · have ih := coef_l2 l ys hb hy hl he i hi (j + 1) (by omega)
    refine Ends.step (Ends.bind (mul_ends _ _ (pc_lt l i l.length j) (fq_lt l ys hy i)) (h := fun t165 k => custodyref06_Coefficients.l2 k l ys ((L (lgIn l ys i j) l.length).set j (Go.bits .xor .u8 ((lgTo l ys i j : Nat) : Int) t165)) (i : Int) (L (pc l i l.length) (fac i l.length + 1)) ((fq l ys i : Nat) : Int) ((j + 1 : Nat) : Int)) (ih.eq (fun k => ?_))) (fun k => ?_)
    · congr 1
      rw [u8_xor_nat _ _ (lgTo_lt l ys i j) (mul_lt _ _ (pc_lt l i l.length j)), L_setx]
      refine L_same (fun q _ => ?_)
      show (if q = j then _ else lgIn l ys i j q) = lgIn l ys i (j + 1) q
      unfold lgIn
      by_cases h1 : q = j
      · subst h1; rw [if_pos rfl, if_pos (by omega)]; rfl
      · rw [if_neg h1]
        by_cases h3 : q < j
        · rw [if_pos h3, if_pos (by omega)]
        · rw [if_neg h3, if_neg (by omega)]
    · have e1 : rd (L (lgIn l ys i j) l.length) (j : Int) = ((lgTo l ys i j : Nat) : Int) := by
        rw [L_rd hlt]; unfold lgIn; rw [if_neg (by omega)]
      simp only [custodyref06_Coefficients.l2]
      rw [if_pos (by rw [L_length]; omega), if_pos (by omega), if_pos (by rw [L_length]; omega), next j (by omega), e1, L_rd (by omega), Int.toNat_natCast]
  · obtain rfl : j = l.length := by omega
    have ih := coef_l0 l ys hb hy hl he (i + 1) (by omega)
    have e2 : L (lgIn l ys i l.length) l.length = L (lgTo l ys (i + 1)) l.length := L_same (fun q hq => by unfold lgIn; rw [if_pos hq])
    rw [e2]
    refine ih.step (fun k => ?_)
    simp only [custodyref06_Coefficients.l2]
    rw [if_neg (by rw [L_length]; omega), next i (by omega)]
termination_by (l.length - i, 0, l.length - j)
end
theorem coef_ends (l ys : List Int) (hb : Bytes l) (hy : Bytes ys) : Ends (fun k => custodyref06_Coefficients.f k l ys) (if dist l = true ∧ l.length = ys.length then (coef l ys, 0) else ([], 1)) := by
  have hj : Ends (fun k => custodyref06_Coefficients.j0 k l ys true) (([] : List Int), (1 : Int)) := (Ends.const _).step (fun k => by simp [custodyref06_Coefficients.j0])
  refine Ends.eq (Ends.bind (distinct_ends l hb) (h := fun t146 k => if t146 = true then (custodyref06_Coefficients.j0 k l ys ((l.length : Int) != (ys.length : Int))) else (custodyref06_Coefficients.j0 k l ys true)) ?_) (fun k => rfl)
  by_cases hd : dist l = true
  · have hln : l.length ≤ 255 := by simp [dist] at hd; omega
    rw [hd]
    simp only [if_true]
    by_cases he : l.length = ys.length
    · have e : ((l.length : Int) != (ys.length : Int)) = false := by simp; omega
      rw [e, if_pos ⟨trivial, he⟩, coef_lg l ys hb hy (dist_nodup hd)]
      refine (coef_l0 l ys hb hy hln he 0 (Nat.zero_le _)).step (fun k => ?_)
      simp only [custodyref06_Coefficients.j0]
      rw [if_neg (by simp), if_pos (by omega), if_pos (by omega), Int.toNat_natCast, ← L_nought]
      rfl
    · have e : ((l.length : Int) != (ys.length : Int)) = true := by simp; omega
      rw [e, if_neg (fun h => he h.2)]
      exact hj
  · rw [if_neg (fun h => hd h.1)]
    simp only [if_neg hd]
    exact hj
end Go.Proofs.Ytgijeelednmmkaa.R2
