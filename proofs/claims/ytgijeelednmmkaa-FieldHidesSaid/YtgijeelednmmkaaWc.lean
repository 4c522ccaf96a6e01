/-
  The walks of the quotient, and of the weights, which call a closure.
-/
import Derived.Test.YtgijeelednmmkaaWb
namespace Go.Proofs.Ytgijeelednmmkaa.Wc
open Go.RowKit Go.Proofs.Ytgijeelednmmkaa.M Go.Proofs.Ytgijeelednmmkaa.B Go.Proofs.Ytgijeelednmmkaa.Wa Go.Proofs.Ytgijeelednmmkaa.Wb Go.Proofs.YtgijeelednmmkaaW.PrintWords

theorem mul_nought (b : Nat) : mul 0 b = 0 := by
  have h : ∀ (k b p : Nat), mulAux k b 0 p = p := by
    intro k
    induction k with
    | zero => intros; rfl
    | succ k ih =>
      intro b p
      unfold mulAux
      rw [show xt 0 = 0 from rfl, ih]
      split <;> simp
  exact h 8 b 0
theorem ret_two {k k' : IntKind} {a b a' b' : Int} (h : a = b) (h' : a' = b') : Ending.returned (.tuple #[.int k a, .int k' a']) = .returned (.tuple #[.int k b, .int k' b']) := by rw [h, h']
theorem div_none (a : Nat) (w : World) :
    Calls Try.prog 11 #[.int .u8 (a : Int), .int .u8 0] w fun e w' => e = .returned (.tuple #[.int .u8 0, .int .i64 1]) ∧ Below w.heap.size w w' := by
  go_enter Try.func11, Try.ntmps11
  go_wp2
  go_ret2
  exact ⟨rfl, Below.refl _ _⟩
theorem div_some (a b : Nat) (w : World) (ha : a < 256) (hb : b < 256) (h0 : 0 < b) :
    Calls Try.prog 11 #[.int .u8 (a : Int), .int .u8 (b : Int)] w fun e w' => e = .returned (.tuple #[.int .u8 (mul a (inv b) : Nat), .int .i64 0]) ∧ Below w.heap.size w w' := by
  by_cases hz : a = 0
  · subst hz
    have HM := Lib.hid (mul_nought (inv b))
    go_enter Try.func11, Try.ntmps11
    go_wp2
    go_ret2
    exact ⟨ret_two (by rw [HM.out]; rfl) rfl, Below.refl _ _⟩
  · go_enter Try.func11, Try.ntmps11
    go_wp2_with (first | (go_at_call 26; refine (inverse_walk b _ hb).mono ?_; rintro e w1 ⟨rfl, hb1⟩) | (go_at_call 14; refine (mul_walk a (inv b) _ ha (pq_lt b 7)).mono ?_; rintro e w' ⟨rfl, rfl⟩))
    go_ret2
    exact ⟨rfl, hb1⟩

/-- Element k, as a number. -/
def nb (l : List Int) (k : Nat) : Nat := (rd l (k : Int)).toNat
theorem nb_lt {l : List Int} (h : Bytes l) (k : Nat) : nb l k < 256 := by
  by_cases hk : k < l.length
  · obtain ⟨n, hn, h1, _⟩ := bytes_rd h k hk
    rw [nb, h1]; omega
  · simp [nb, rd, hk]
theorem nb_rd {l : List Int} (h : Bytes l) (k : Nat) : rd l (k : Int) = (nb l k : Nat) := by
  by_cases hk : k < l.length
  · obtain ⟨n, hn, h1, _⟩ := bytes_rd h k hk
    rw [nb, h1]; omega
  · simp [nb, rd, hk]
/-- The product of x + y for the first n elements y but one. -/
def prodTo (l : List Int) (but x : Nat) : Nat → Nat
  | 0 => 1
  | k + 1 => if k = but then prodTo l but x k else mul (prodTo l but x k) (x ^^^ nb l k)
theorem prodTo_lt (l : List Int) (but x : Nat) : ∀ n, prodTo l but x n < 256
  | 0 => by unfold prodTo; omega
  | k + 1 => by
    unfold prodTo
    split
    · exact prodTo_lt l but x k
    · exact mul_lt _ _ (prodTo_lt l but x k)

set_option maxHeartbeats 800000 in
theorem product_walk (A0 : Option Addr) (c0 : Nat) (l : List Int) (but x : Nat) (pa : Addr) (w : World) (hr : Kd.C (Kd.int .u8) w A0 l.length l) (hb : Bytes l) (hbut : but < l.length) (hx : x < 256) (hp : w.cell? pa = some (.slice A0 l.length c0)) :
    Calls Try.prog 28 #[.int .i64 (but : Int), .int .u8 (x : Int), .pointer (some pa)] w fun e w' => e = .returned (.int .u8 (prodTo l but x l.length : Nat)) ∧ w = w' := by
  have hlen : l.length ≤ 9223372036854775807 := hr.2.1
  go_enter Try.func28, Try.ntmps28
  go_wp2
  go_loop [6, 11] (fun v6 v11 => ∃ k : Nat, k ≤ l.length ∧ v11 = .int .i64 (k : Int) ∧ v6 = .int .u8 (prodTo l but x k : Nat)) (fun _ v11 => l.length - (intOf v11).toNat)
  case atStart => exact ⟨0, Nat.zero_le _, rfl, rfl⟩
  case round =>
    obtain ⟨k, hk, rfl, rfl⟩ := hrel
    by_cases hlt : k < l.length
    · obtain ⟨ad, e0, hcell⟩ := Kd.at_int hr (k : Int) (by omega) (by omega)
      subst e0
      rw [nb_rd hb] at hcell
      simp only [Int.toNat_natCast] at hcell
      have hnb := nb_lt hb k
      by_cases hkb : k = but
      · have HP := Lib.hid (show prodTo l but x (k + 1) = prodTo l but x k by rw [prodTo, if_pos hkb])
        subst hkb
        go_wp2
        go_round
        case rel => exact ⟨k + 1, by omega, by go_num, by rw [HP.out]⟩
        case measure => simp [intOf]; omega
      · have HP := Lib.hid (show prodTo l but x (k + 1) = mul (prodTo l but x k) (x ^^^ nb l k) by rw [prodTo, if_neg hkb])
        have HX : Go.bits .xor .u8 (x : Int) (nb l k : Int) = ((x ^^^ nb l k : Nat) : Int) := u8_xor_nat _ _ hx hnb
        have hne : ((k : Int) != (but : Int)) = true := by simp; omega
        go_wp2_with (go_at_call 14; refine (mul_walk _ _ _ (prodTo_lt l but x k) (xor_lt _ _ hx hnb)).mono ?_; rintro e w' ⟨rfl, rfl⟩)
        go_round
        case rel => exact ⟨k + 1, by omega, by go_num, by rw [HP.out]⟩
        case measure => simp [intOf]; omega
    · obtain rfl : k = l.length := by omega
      go_wp2
      go_ret
      exact ⟨rfl, rfl⟩

/-- What Div returns. -/
def dvs (a b : Nat) : Nat := if b = 0 then 0 else mul a (inv b)
def dve (b : Nat) : Int := if b = 0 then 1 else 0
theorem dvs_lt (a b : Nat) (ha : a < 256) : dvs a b < 256 := by
  unfold dvs
  split
  · omega
  · exact mul_lt _ _ ha
theorem div_walk (a b : Nat) (w : World) (ha : a < 256) (hb : b < 256) :
    Calls Try.prog 11 #[.int .u8 (a : Int), .int .u8 (b : Int)] w fun e w' => e = .returned (.tuple #[.int .u8 (dvs a b : Nat), .int .i64 (dve b)]) ∧ Below w.heap.size w w' := by
  by_cases h : b = 0
  · subst h
    exact (div_none a w).mono fun e w' hh => hh
  · refine (div_some a b w ha hb (by omega)).mono fun e w' hh => ⟨hh.1.trans (ret_two ?_ ?_), hh.2⟩
    · rw [dvs, if_neg h]
    · rw [dve, if_neg h]

/-- A weight, and all of them. -/
def wt (l : List Int) (x i : Nat) : Nat := dvs (prodTo l i x l.length) (prodTo l i (nb l i) l.length)
def wts (l : List Int) (x : Nat) : List Int := (List.range l.length).map fun i => ((wt l x i : Nat) : Int)

def cellsOf (l : List Int) : Array Value := (l.map (Value.int .u8)).toArray
theorem R_of_blk {w : World} {g base : Nat} {l : List Int} (h : Blk w g 5 (cellsOf l)) (hg : base ≤ g) (hl : l.length ≤ maxLen) :
    Kd.R (Kd.int .u8) 5 w base (fun _ => True) (.slice (some ⟨g, 0, none⟩) l.length l.length) l := by
  refine ⟨fun _ _ => trivial, l.map (Value.int .u8), ⟨?_, .inr ⟨g, l.length, cellsOf l, rfl, hg, h, Nat.le_refl _, hl, ?_, ?_⟩⟩, ?_⟩
  · simp [Kd.int, Kd.scalar]
  · simp [cellsOf, Kd.int, Kd.scalar]
  · show List.take (l.length * 1) (l.map (Value.int .u8)) = _
    rw [List.take_of_length_le (by simp)]
  · refine ⟨by simp [Kd.int, Kd.scalar], fun j p hj => ?_⟩
    have hlt := (List.getElem?_eq_some_iff.1 hj).1
    show (List.take 1 (List.drop (j * 1) (l.map (Value.int .u8)))) = [Value.int .u8 p]
    rw [Nat.mul_one, List.drop_eq_getElem_cons (by simpa using hlt)]
    simp [(List.getElem?_eq_some_iff.1 hj).2]
theorem cells_eq {cs : Array Value} {l : List Int} (hs : cs.size = l.length) (h : ∀ j : Nat, j < l.length → cs[j]? = some (.int .u8 (l.getD j 0))) : cs = cellsOf l := by
  apply Array.ext
  · simp [hs, cellsOf]
  · intro j h1 h2
    have h3 := h j (by omega)
    rw [Array.getElem?_eq_getElem h1] at h3
    have h4 : j < l.length := by omega
    simp [cellsOf, Option.some.inj h3, h4]
theorem make_bytes (n : Nat) (hn : n ≤ 256) (w : World) :
    (Instr.makeSlice 30 (.int .i64 (n : Int)) (.int .i64 (n : Int))).run Try.prog w = .ok (.slice (some ⟨w.heap.size, 0, none⟩) n n) (w.alloc (.cells (cellsOf (List.replicate n 0)) 5)) := by
  have hi : (Try.prog.info? 5).map (fun i => (i.zero, i.size, i.bytes)) = some (some (.int .u8 0), 1, 1) := by kernel_rfl
  obtain ⟨i0, h0, hz⟩ := Option.map_eq_some_iff.1 hi
  simp only [Prod.mk.injEq] at hz
  obtain ⟨hz0, hz1, hz2⟩ := hz
  have h := run_make (P := Try.prog) w 30 5 i0 (.int .u8 0) Try.underlying30 h0 hz0 .i64 .i64 (n : Int) (n : Int) (by omega) (by omega) (by rw [hz2]; omega) (by omega)
  rw [h]
  simp only [Int.toNat_natCast]
  congr 3
  rw [hz1]
  apply cells_eq
  · simp [size_madeCells]
  · intro j hj
    have hj' : j < n := by simpa using hj
    simp [madeCells, Value.cells, hj', Nat.mod_one]

set_option maxHeartbeats 800000 in
theorem weights_walk (A0 : Option Addr) (c0 : Nat) (l : List Int) (x : Nat) (w : World) (hr : Kd.C (Kd.int .u8) w A0 l.length l) (hb : Bytes l) (hx : x < 256) (hd : dist l = true) :
    Calls Try.prog 17 #[.slice A0 l.length c0, .int .u8 (x : Int)] w fun e w' => ∃ v0_ : Value, e = .returned (.tuple #[v0_, .int .i64 0]) ∧ Kd.R (Kd.int .u8) 5 w' w.heap.size (fun _ => True) v0_ (wts l x) ∧ Below w.heap.size w w' := by
  have hlen : l.length ≤ 255 := by simp [dist] at hd; omega
  have hmk := make_bytes l.length (by omega)
  have HD := Lib.hid hd
  clear hd
  have hr0 := Kd.C_below hr ((Below.refl w.heap.size w).alloc (Nat.le_refl _) (.cells #[.slice A0 l.length c0] 30))
  go_enter Try.func17, Try.ntmps17
  go_wp2_with (first | (go_at_call 27; refine (distinct_walk A0 c0 l _ hr0 hb).mono ?_; rintro e w1 ⟨rfl, hb1⟩; rw [HD.out]; have hbx : w1.cell? ⟨w.heap.size, 0, none⟩ = some (.slice A0 l.length c0) := ((Blk.new w 30 #[.slice A0 l.length c0]).below hb1 (by simp)).cell 0; have hz1 : w.heap.size < w1.heap.size := by { have h9 := hb1.size; simp at h9; omega }))
  have hW : Below w.heap.size w w1 := below_join ((Below.refl w.heap.size w).alloc (Nat.le_refl _) (.cells #[.slice A0 l.length c0] 30)) (by simp) hb1
  have hB1 : Blk w1 w.heap.size 30 #[.slice A0 l.length c0] := (Blk.new w 30 #[.slice A0 l.length c0]).below hb1 (by simp)
  clear hbx hb1 hr0
  go_loopw [19] (fun v19 wr => ∃ (k : Nat) (cs : Array Value), k ≤ l.length ∧ v19 = .int .i64 (k : Int) ∧ Blk wr w1.heap.size 5 cs ∧ cs.size = l.length ∧ (∀ j : Nat, j < k → cs[j]? = some (.int .u8 (wt l x j : Nat))) ∧ Below w1.heap.size w1 wr) (fun v19 _ => l.length - (intOf v19).toNat)
  case atStart => exact ⟨0, _, Nat.zero_le _, rfl, Blk.new _ _ _, by simp [cellsOf], fun j hj => absurd hj (by omega), (Below.refl _ _).alloc (Nat.le_refl _) _⟩
  case round =>
    obtain ⟨k, cs, hk, rfl, hblk, hsz, hcs, hbel⟩ := hrel
    have hall : Below w.heap.size w wr := below_next hW hbel
    by_cases hlt : k < l.length
    · have hrr := Kd.C_below hr hall
      obtain ⟨ad, e0, hcell⟩ := Kd.at_int hrr (k : Int) (by omega) (by omega)
      subst e0
      rw [nb_rd hb] at hcell
      simp only [Int.toNat_natCast] at hcell
      have hnb := nb_lt hb k
      have hbx : wr.cell? ⟨w.heap.size, 0, none⟩ = some (.slice (some ad) l.length c0) := (hB1.below hbel hz1).cell 0
      have hz2 := hblk.lt
      have HS := Lib.hid hsz
      have HC := Lib.hid hcs
      clear hsz hcs
      go_wp2_with (first | (go_at_call 28; refine (product_walk (some ad) c0 l k _ _ _ hrr hb hlt (by first | exact hx | exact hnb) hbx).mono ?_; rintro e w' ⟨rfl, rfl⟩) | (go_at_call 11; refine (div_walk _ _ _ (prodTo_lt _ _ _ _) (prodTo_lt _ _ _ _)).mono ?_; rintro e w2 ⟨rfl, hb2⟩; have hblk2 := hblk.below hb2 hz2; have hc2 := (hblk2.cell k).trans (Array.getElem?_eq_getElem (by rw [HS.out]; exact hlt)); have hf2 := hblk2.frozen k))
      go_roundw
      case rel =>
        refine ⟨k + 1, cs.setIfInBounds k (.int .u8 (wt l x k : Nat)), by omega, by go_num, hblk2.put k _, by simpa using HS.out, fun j hj => ?_, (below_next hbel hb2).setCell (Nat.le_refl _) _⟩
        by_cases e : j = k
        · subst e
          rw [Array.getElem?_setIfInBounds_self_of_lt (by rw [HS.out]; exact hlt)]
        · rw [Array.getElem?_setIfInBounds_ne (by omega)]
          exact HC.out j (by omega)
      case measure => simp [intOf]; omega
    · obtain rfl : k = l.length := by omega
      have HC := Lib.hid hcs
      have HS := Lib.hid hsz
      clear hsz hcs
      go_wp2
      go_ret2
      have hln : (wts l x).length = l.length := by simp [wts]
      have hce : cs = cellsOf (wts l x) := by
        apply cells_eq
        · rw [HS.out, hln]
        · intro j hj
          rw [hln] at hj
          rw [HC.out j hj]
          simp [wts, hj]
      rw [hce] at hblk
      refine ⟨_, rfl, ?_, hall⟩
      have h2 := R_of_blk hblk (Nat.le_of_lt hz1) (by rw [hln]; unfold maxLen; omega)
      rwa [hln] at h2

theorem weights_none (A0 : Option Addr) (c0 : Nat) (l : List Int) (x : Nat) (w : World) (hr : Kd.C (Kd.int .u8) w A0 l.length l) (hb : Bytes l) (hd : dist l = false) :
    Calls Try.prog 17 #[.slice A0 l.length c0, .int .u8 (x : Int)] w fun e w' => ∃ v0_ : Value, e = .returned (.tuple #[v0_, .int .i64 1]) ∧ Kd.R (Kd.int .u8) 5 w' w.heap.size (fun _ => True) v0_ [] ∧ Below w.heap.size w w' := by
  have HD := Lib.hid hd
  clear hd
  have hr0 := Kd.C_below hr ((Below.refl w.heap.size w).alloc (Nat.le_refl _) (.cells #[.slice A0 l.length c0] 30))
  go_enter Try.func17, Try.ntmps17
  go_wp2_with (first | (go_at_call 27; refine (distinct_walk A0 c0 l _ hr0 hb).mono ?_; rintro e w1 ⟨rfl, hb1⟩; rw [HD.out]))
  go_ret2
  exact ⟨_, rfl, Kd.R_nil _ _ _ _ _, below_join ((Below.refl w.heap.size w).alloc (Nat.le_refl _) (.cells #[.slice A0 l.length c0] 30)) (by simp) hb1⟩

/-! What the functions say, in the print's form. -/
theorem to_nat {a : Int} (h : 0 ≤ a ∧ a ≤ 255) : ∃ n : Nat, a = (n : Int) ∧ n < 256 ∧ a.toNat = n := ⟨a.toNat, by omega, by omega, rfl⟩
def fMul (a b : Int) : Option Int := if (0 ≤ a ∧ a ≤ 255) ∧ (0 ≤ b ∧ b ≤ 255) then some ((mul a.toNat b.toNat : Nat) : Int) else none
def fInverse (a : Int) : Option Int := if 0 ≤ a ∧ a ≤ 255 then some ((inv a.toNat : Nat) : Int) else none
def fDiv (a b : Int) : Option (Int × Int) := if (0 ≤ a ∧ a ≤ 255) ∧ (0 ≤ b ∧ b ≤ 255) then some (((dvs a.toNat b.toNat : Nat) : Int), dve b.toNat) else none
def fDistinct (l : List Int) : Option Bool := if Bytes l then some (dist l) else none
def fWeights (l : List Int) (x : Int) : Option (List Int × Int) := if Bytes l ∧ (0 ≤ x ∧ x ≤ 255) then some (if dist l = true then (wts l x.toNat, 0) else ([], 1)) else none
theorem mul_calls (a0 a1 r : Int) (w : World) (h : fMul a0 a1 = some r) :
    Calls Try.prog 14 #[.int .u8 a0, .int .u8 a1] w fun e w' => e = .returned (.int .u8 r) ∧ Drawn0 w w' := by
  unfold fMul at h
  split at h
  · rename_i hc
    obtain ⟨a, rfl, ha, _⟩ := to_nat hc.1
    obtain ⟨b, rfl, hb, _⟩ := to_nat hc.2
    obtain rfl := Option.some.inj h
    exact (mul_walk a b w ha hb).mono fun e w' hh => ⟨hh.1, hh.2 ▸ Drawn0.refl _⟩
  · cases h
theorem inverse_calls (a0 r : Int) (w : World) (h : fInverse a0 = some r) :
    Calls Try.prog 26 #[.int .u8 a0] w fun e w' => e = .returned (.int .u8 r) ∧ Below w.heap.size w w' := by
  unfold fInverse at h
  split at h
  · rename_i hc
    obtain ⟨a, rfl, ha, _⟩ := to_nat hc
    obtain rfl := Option.some.inj h
    exact inverse_walk a w ha
  · cases h
theorem div_calls (a0 a1 r1 r2 : Int) (w : World) (h : fDiv a0 a1 = some (r1, r2)) :
    Calls Try.prog 11 #[.int .u8 a0, .int .u8 a1] w fun e w' => e = .returned (.tuple #[.int .u8 r1, .int .i64 r2]) ∧ Below w.heap.size w w' := by
  unfold fDiv at h
  split at h
  · rename_i hc
    obtain ⟨a, rfl, ha, _⟩ := to_nat hc.1
    obtain ⟨b, rfl, hb, _⟩ := to_nat hc.2
    obtain ⟨rfl, rfl⟩ := Prod.mk.inj (Option.some.inj h)
    exact div_walk a b w ha hb
  · cases h
theorem distinct_calls (A0 : Option Addr) (c0 : Nat) (l0 : List Int) (r : Bool) (w : World) (hr0 : Kd.C (Kd.int .u8) w A0 l0.length l0) (_hc0 : l0.length ≤ c0) (h : fDistinct l0 = some r) :
    Calls Try.prog 27 #[.slice A0 l0.length c0] w fun e w' => e = .returned (.bool r) ∧ Below w.heap.size w w' := by
  unfold fDistinct at h
  split at h
  · rename_i hc
    obtain rfl := Option.some.inj h
    exact distinct_walk A0 c0 l0 w hr0 hc
  · cases h
theorem weights_calls (A0 : Option Addr) (c0 : Nat) (l0 : List Int) (a1 : Int) (r1 : List Int) (r2 : Int) (w : World) (hr0 : Kd.C (Kd.int .u8) w A0 l0.length l0) (_hc0 : l0.length ≤ c0) (h : fWeights l0 a1 = some (r1, r2)) :
    Calls Try.prog 17 #[.slice A0 l0.length c0, .int .u8 a1] w fun e w' => ∃ v0_ : Value, e = .returned (.tuple #[v0_, .int .i64 r2]) ∧ Kd.R (Kd.int .u8) 5 w' w.heap.size (fun _ => True) v0_ r1 ∧ Below w.heap.size w w' := by
  unfold fWeights at h
  split at h
  · rename_i hc
    obtain ⟨x, rfl, hx, _⟩ := to_nat hc.2
    have h2 := Option.some.inj h
    cases hd : dist l0 with
    | true =>
      rw [hd, if_pos rfl] at h2
      obtain ⟨rfl, rfl⟩ := Prod.mk.inj h2
      exact weights_walk A0 c0 l0 x w hr0 hc.1 hx hd
    | false =>
      rw [hd, if_neg (by simp)] at h2
      obtain ⟨rfl, rfl⟩ := Prod.mk.inj h2
      exact weights_none A0 c0 l0 x w hr0 hc.1 hd
  · cases h
end Go.Proofs.Ytgijeelednmmkaa.Wc
