/-
  The walks of the value of a polynomial, and of the coefficients by divided differences.
-/
import Derived.Test.YtgijeelednmmkaaWc
import Derived.Test.YtgijeelednmmkaaQ
import Derived.BigQuiet
import Derived.Deep.DeepCutAuto
import Derived.RegionTactic
namespace Go.Proofs.Ytgijeelednmmkaa.Wd
open Go.RowKit Go.Proofs.Ytgijeelednmmkaa.M Go.Proofs.Ytgijeelednmmkaa.B Go.Proofs.Ytgijeelednmmkaa.Wa Go.Proofs.Ytgijeelednmmkaa.Wb Go.Proofs.Ytgijeelednmmkaa.Wc Go.Proofs.YtgijeelednmmkaaW.PrintWords

/-- The value of a polynomial, by Horner's rule. -/
def ev (x : Nat) : List Int → Nat
  | [] => 0
  | a :: t => mul (ev x t) x ^^^ a.toNat
theorem bytes_tail {a : Int} {t : List Int} (h : Bytes (a :: t)) : Bytes t := fun y hy => h y (List.mem_cons_of_mem _ hy)
theorem ev_lt (x : Nat) : ∀ (l : List Int), Bytes l → ev x l < 256
  | [], _ => by unfold ev; omega
  | a :: t, h => by
    unfold ev
    have h2 := h a List.mem_cons_self
    exact xor_lt _ _ (mul_lt _ _ (ev_lt x t (bytes_tail h))) (by omega)
theorem bytes_drop {l : List Int} (h : Bytes l) (k : Nat) : Bytes (l.drop k) := fun y hy => h y (List.mem_of_mem_drop hy)
theorem ev_drop (x : Nat) (l : List Int) (k : Nat) (hk : k < l.length) : ev x (l.drop k) = mul (ev x (l.drop (k + 1))) x ^^^ nb l k := by
  rw [List.drop_eq_getElem_cons hk, ev]
  congr 1
  simp [nb, rd, hk]

set_option maxHeartbeats 800000 in
theorem eval_walk (A0 : Option Addr) (c0 : Nat) (l : List Int) (x : Nat) (w : World) (hr : Kd.C (Kd.int .u8) w A0 l.length l) (hb : Bytes l) (hx : x < 256) :
    Calls Try.prog 23 #[.slice A0 l.length c0, .int .u8 (x : Int)] w fun e w' => e = .returned (.int .u8 (ev x l : Nat)) ∧ Drawn0 w w' := by
  have hlen : l.length ≤ 9223372036854775807 := hr.2.1
  go_enter Try.func23, Try.ntmps23
  go_wp2
  go_loopw [4, 5] (fun v4 v5 wr => ∃ k : Nat, k ≤ l.length ∧ v5 = .int .i64 ((k : Int) - 1) ∧ v4 = .int .u8 (ev x (l.drop k) : Nat) ∧ Drawn0 w wr) (fun _ v5 _ => (intOf v5 + 1).toNat)
  case atStart => exact ⟨l.length, Nat.le_refl _, rfl, by simp [ev], Drawn0.refl _⟩
  case round =>
    obtain ⟨k, hk, rfl, rfl, hdr⟩ := hrel
    by_cases hlt : 0 < k
    · obtain ⟨k, rfl⟩ : ∃ j, k = j + 1 := ⟨k - 1, by omega⟩
      obtain ⟨ad, e0, hcell⟩ := Kd.at_int (Kd.C_below hr hdr.below) (k : Int) (by omega) (by omega)
      subst e0
      rw [nb_rd hb] at hcell
      simp only [Int.toNat_natCast] at hcell
      have hnb := nb_lt hb k
      have hev := ev_lt x _ (bytes_drop hb (k + 1))
      have HE := Lib.hid (ev_drop x l k (by omega))
      have HX : Go.bits .xor .u8 (mul (ev x (l.drop (k + 1))) x : Int) (nb l k : Int) = ((mul (ev x (l.drop (k + 1))) x ^^^ nb l k : Nat) : Int) := u8_xor_nat _ _ (mul_lt _ _ hev) hnb
      have e1 : (((k + 1 : Nat) : Int) - 1) = (k : Int) := by omega
      rw [e1]
      have w2 : (k : Int) < (l.length : Int) := by omega
      go_wp2
      go_quiet ((go_at_call 14; exact Calls.quiet_of_same (mul_still _ _ _ hev hx)))
      go_wp2
      go_roundw
      case rel => exact ⟨k, by omega, rfl, by rw [HE.out], hdr.step _⟩
      case measure => simp [intOf]
    · obtain rfl : k = 0 := by omega
      go_wp2
      go_ret
      exact ⟨rfl, hdr⟩

/-- A list out of a function. -/
def L (f : Nat → Nat) (n : Nat) : List Int := (List.range n).map fun j => ((f j : Nat) : Int)
theorem L_length (f : Nat → Nat) (n : Nat) : (L f n).length = n := by simp [L]
theorem L_get (f : Nat → Nat) (n j : Nat) (h : j < n) : (L f n)[j]? = some ((f j : Nat) : Int) := by simp [L, h]
theorem L_bytes {f : Nat → Nat} (n : Nat) (h : ∀ j, f j < 256) : Bytes (L f n) := by
  intro y hy
  obtain ⟨j, _, rfl⟩ := List.mem_map.1 hy
  have := h j
  omega
theorem L_set (f : Nat → Nat) (n k v : Nat) : (L f n).set k (v : Int) = L (fun j => if j = k then v else f j) n := by
  apply List.ext_getElem?
  intro j
  rw [List.getElem?_set]
  by_cases hj : j < n
  · rw [L_get _ _ _ hj, L_get _ _ _ hj]
    by_cases e : k = j
    · subst e; simp [L_length, hj]
    · rw [if_neg e, if_neg (fun h => e h.symm)]
  · rw [List.getElem?_eq_none (by rw [L_length]; omega), List.getElem?_eq_none (by rw [L_length]; omega)]
    split <;> simp_all [L_length]
theorem L_same {f g : Nat → Nat} {n : Nat} (h : ∀ j, j < n → f j = g j) : L f n = L g n := by
  apply List.map_congr_left
  intro j hj
  rw [h j (List.mem_range.1 hj)]
theorem cells_set (l : List Int) (k : Nat) (v : Int) : (cellsOf l).setIfInBounds k (.int .u8 v) = cellsOf (l.set k v) := by
  simp [cellsOf, List.map_set]
theorem cells_at (f : Nat → Nat) (n j : Nat) (h : j < n) : (cellsOf (L f n))[j]? = some (.int .u8 ((f j : Nat) : Int)) := by
  simp [cellsOf, L, h]
/-- The state of the divided differences: the coefficients so far; the product of x + xs[k]. -/
def dd (xs ys : List Int) (n i : Nat) (s : (Nat → Nat) × (Nat → Nat)) : Nat := dvs (nb ys i ^^^ ev (nb xs i) (L s.1 n)) (ev (nb xs i) (L s.2 (i + 1)))
def cst (xs ys : List Int) (n : Nat) : Nat → (Nat → Nat) × (Nat → Nat)
  | 0 => (fun _ => 0, fun j => if j = 0 then 1 else 0)
  | i + 1 =>
    let s := cst xs ys n i
    (fun j => if j ≤ i then s.1 j ^^^ mul (s.2 j) (dd xs ys n i s) else s.1 j,
     fun j => if j = 0 then mul (s.2 0) (nb xs i) else if j ≤ i + 1 then s.2 (j - 1) ^^^ mul (s.2 j) (nb xs i) else 0)
def coef (xs ys : List Int) : List Int := L (cst xs ys xs.length xs.length).1 xs.length
theorem cst_lt {xs ys : List Int} (n : Nat) (hx : Bytes xs) : ∀ i, (∀ j, (cst xs ys n i).1 j < 256) ∧ (∀ j, (cst xs ys n i).2 j < 256) ∧ ∀ j, i < j → (cst xs ys n i).2 j = 0
  | 0 => ⟨fun j => by unfold cst; dsimp only; omega, fun j => by unfold cst; dsimp only; split <;> omega, fun j hj => by unfold cst; dsimp only; rw [if_neg (by omega)]⟩
  | i + 1 => by
    obtain ⟨h1, h2, h3⟩ := cst_lt (ys := ys) n hx i
    refine ⟨fun j => ?_, fun j => ?_, fun j hj => ?_⟩
    · unfold cst; dsimp only
      split
      · exact xor_lt _ _ (h1 j) (mul_lt _ _ (h2 j))
      · exact h1 j
    · unfold cst; dsimp only
      split
      · exact mul_lt _ _ (h2 0)
      · split
        · exact xor_lt _ _ (h2 _) (mul_lt _ _ (h2 j))
        · omega
    · unfold cst; dsimp only
      rw [if_neg (by omega), if_neg (by omega)]

/-- Block g: N cells of bytes, the first m of them are f's. -/
def Pre (w : World) (g : Nat) (f : Nat → Nat) (m N : Nat) : Prop := ∃ cur : Array Value, Blk w g 5 cur ∧ cur.size = N ∧ ∀ j, j < m → cur[j]? = some (.int .u8 ((f j : Nat) : Int))
section
variable {w w' : World} {g : Nat} {f f' : Nat → Nat} {m N : Nat}
theorem Pre.lt (h : Pre w g f m N) : g < w.heap.size := by obtain ⟨cur, h1, _⟩ := h; exact h1.lt
theorem Pre.cell (h : Pre w g f m N) (j : Nat) (hj : j < m) : w.cell? ⟨g, j, none⟩ = some (.int .u8 ((f j : Nat) : Int)) := by
  obtain ⟨cur, h1, _, h3⟩ := h
  rw [h1.cell, h3 j hj]
theorem Pre.some (h : Pre w g f m N) (j : Nat) (hj : j < N) : ∃ u, w.cell? ⟨g, j, none⟩ = Option.some u := by
  obtain ⟨cur, h1, h2, _⟩ := h
  exact ⟨_, (h1.cell j).trans (Array.getElem?_eq_getElem (by omega))⟩
theorem Pre.frozen (h : Pre w g f m N) (j : Nat) : w.frozen? ⟨g, j, none⟩ = false := by
  obtain ⟨cur, h1, _⟩ := h
  exact h1.frozen j
theorem Pre.put (h : Pre w g f m N) (k v : Nat) (hk : k < N) (hf : ∀ j, j < m → f' j = if j = k then v else f j) : Pre (w.setCell ⟨g, k, none⟩ (.int .u8 (v : Int))) g f' m N := by
  obtain ⟨cur, h1, h2, h3⟩ := h
  refine ⟨_, h1.put k _, by simpa using h2, fun j hj => ?_⟩
  rw [hf j hj]
  by_cases e : j = k
  · subst e
    rw [Array.getElem?_setIfInBounds_self_of_lt (by omega), if_pos rfl]
  · rw [Array.getElem?_setIfInBounds_ne (by omega), if_neg e, h3 j hj]
theorem Pre.same (h : Pre w g f m N) (hf : ∀ j, j < m → f' j = f j) : Pre w g f' m N := by
  obtain ⟨cur, h1, h2, h3⟩ := h
  exact ⟨cur, h1, h2, fun j hj => by rw [hf j hj, h3 j hj]⟩
theorem Pre.far (h : Pre w g f m N) {p : Addr} (hp : g ≠ p.block) (u : Value) : Pre (w.setCell p u) g f m N := by
  obtain ⟨cur, h1, h2, h3⟩ := h
  exact ⟨cur, h1.far hp u, h2, h3⟩
theorem Pre.drewN (h : Pre w g f m N) (n : Nat) : Pre (w.drewN n) g f m N := h
theorem Pre.drew (h : Pre w g f m N) : Pre w.drew g f m N := h
theorem Pre.alloc (h : Pre w g f m N) (o : Obj) : Pre (w.alloc o) g f m N := by
  obtain ⟨cur, h1, h2, h3⟩ := h
  exact ⟨cur, h1.alloc o, h2, h3⟩
theorem Pre.below {B : Nat} (h : Pre w g f m N) (hb : Below B w w') (hg : g < B) : Pre w' g f m N := by
  obtain ⟨cur, h1, h2, h3⟩ := h
  exact ⟨cur, h1.below hb hg, h2, h3⟩
theorem Pre.grown (h : Pre w g f m N) {row : Option Nat} (hb : w.grownBy w' row) (hr : Option.some g ≠ row) : Pre w' g f m N := by
  obtain ⟨cur, h1, h2, h3⟩ := h
  exact ⟨cur, (hb.block g h1.lt hr).trans h1, h2, h3⟩
theorem Pre.new (w : World) (N : Nat) : Pre (w.alloc (.cells (cellsOf (L (fun _ => 0) N)) 5)) w.heap.size (fun _ => 0) N N :=
  ⟨_, Blk.new _ _ _, by simp [cellsOf, L_length], fun j hj => cells_at _ _ _ hj⟩
theorem Pre.less (h : Pre w g f m N) {k : Nat} (hk : k ≤ m) : Pre w g f k N := by
  obtain ⟨cur, h1, h2, h3⟩ := h
  exact ⟨cur, h1, h2, fun j hj => h3 j (by omega)⟩
def vals (f : Nat → Nat) (m : Nat) : List Value := (List.range m).map fun j => .int .u8 ((f j : Nat) : Int)
theorem Pre.owns (h : Pre w g f m N) (hm : m ≤ N) (hN : N ≤ 1000) : w.ownsRow g 5 1 (.slice (Option.some ⟨g, 0, none⟩) m N) m (vals f m) := by
  obtain ⟨cur, h1, h2, h3⟩ := h
  refine ⟨by simp [vals], .inr ⟨g, N, cur, rfl, Nat.le_refl _, h1, hm, by unfold maxLen; omega, by omega, ?_⟩⟩
  apply List.ext_getElem?
  intro j
  by_cases hj : j < m
  · rw [List.getElem?_take, if_pos (by omega), Array.getElem?_toList, h3 j hj]
    simp [vals, hj]
  · rw [List.getElem?_take, if_neg (by omega), List.getElem?_eq_none (by simp [vals]; omega)]
theorem Pre.of_owns {b : Nat} (h : w.ownsRow b 5 1 (.slice (Option.some ⟨g, 0, none⟩) m N) m (vals f m)) : Pre w g f m N := by
  rcases h.2 with ⟨h1, _⟩ | ⟨g', cap, cur, h1, _, h3, h4, _, h6, h7⟩
  · cases h1
  · injection h1 with e1 _ e2
    injection e1 with e1
    injection e1 with e1
    subst e1; subst e2
    refine ⟨cur, h3, by omega, fun j hj => ?_⟩
    have h8 : (cur.toList.take (m * 1))[j]? = (vals f m)[j]? := by rw [h7]
    rw [List.getElem?_take, if_pos (by omega), Array.getElem?_toList] at h8
    rw [h8]
    simp [vals, hj]
theorem Pre.reads (h : Pre w g f m N) (hm : m ≤ 1000) : Kd.C (Kd.int .u8) w (Option.some ⟨g, 0, none⟩) (L f m).length (L f m) := by
  refine ⟨rfl, by rw [L_length]; omega, fun _ => ⟨_, rfl, fun j p hj => ⟨[.int .u8 p], rfl, rfl, fun i u hu => ?_⟩⟩⟩
  have hlt : j < m := by
    have := (List.getElem?_eq_some_iff.1 hj).1
    rwa [L_length] at this
  rw [L_get _ _ _ hlt] at hj
  have hi : i = 0 := by
    rcases Nat.eq_zero_or_pos i with h0 | h0
    · exact h0
    · rw [List.getElem?_eq_none (by simp; omega)] at hu; cases hu
  subst hi
  have hu' : Value.int .u8 p = u := by simpa using hu
  subst hu'
  rw [show (Kd.int .u8).sz = 1 from rfl, Nat.mul_one, Nat.add_zero, add_plain, h.cell j hlt]
  rw [Option.some.inj hj]
end
theorem heap_two (w : World) (o : Obj) : (w.alloc o).heap.size = w.heap.size + 1 := by simp
theorem makes_a (w : World) (n : Nat) : Pre ((w.alloc (.cells (cellsOf (L (fun _ => 0) n)) 5)).alloc (.cells (cellsOf (L (fun _ => 0) (n + 1))) 5)).drew w.heap.size (fun _ => 0) n n := (Pre.new w n).alloc _
theorem makes_b (w : World) (n : Nat) : Pre ((w.alloc (.cells (cellsOf (L (fun _ => 0) n)) 5)).alloc (.cells (cellsOf (L (fun _ => 0) (n + 1))) 5)).drew (w.heap.size + 1) (fun _ => 0) 1 (n + 1) := by
  have h := (Pre.new (w.alloc (.cells (cellsOf (L (fun _ => 0) n)) 5)) (n + 1)).less (show 1 ≤ n + 1 by omega)
  rw [heap_two] at h
  exact h
theorem makes_d (w : World) (n : Nat) : Pre ((w.alloc (.cells (cellsOf (L (fun _ => 0) (n + 1))) 5)).alloc (.cells (cellsOf (L (fun _ => 0) n)) 5)).drew (w.heap.size + 1) (fun _ => 0) n n := by
  have h := Pre.new (w.alloc (.cells (cellsOf (L (fun _ => 0) (n + 1))) 5)) n
  rw [heap_two] at h
  exact h
theorem makes_e (w : World) (n : Nat) : Pre ((w.alloc (.cells (cellsOf (L (fun _ => 0) (n + 1))) 5)).alloc (.cells (cellsOf (L (fun _ => 0) n)) 5)).drew w.heap.size (fun _ => 0) 1 (n + 1) := ((Pre.new w (n + 1)).less (by omega)).alloc _
theorem makes_c (w : World) (o o' : Obj) : Below w.heap.size w ((w.alloc o).alloc o').drew := (((Below.refl _ _).alloc (Nat.le_refl _) o).alloc (by simp) o').drew

/-- The whole block, as the print has it. -/
theorem Pre.owned {w : World} {g base : Nat} {f : Nat → Nat} {n : Nat} (h : Pre w g f n n) (hg : base ≤ g) (hn : n ≤ 1000) :
    Kd.R (Kd.int .u8) 5 w base (fun _ => True) (.slice (Option.some ⟨g, 0, none⟩) n n) (L f n) := by
  obtain ⟨cur, h1, h2, h3⟩ := h
  have hc : cur = cellsOf (L f n) := cells_eq (by rw [h2, L_length]) (fun j hj => by
    rw [L_length] at hj
    rw [h3 j hj]
    simp [L, hj])
  rw [hc] at h1
  have h4 := R_of_blk h1 hg (by rw [L_length]; unfold maxLen; omega)
  rwa [L_length] at h4

theorem eval_pre {w : World} {g : Nat} {f : Nat → Nat} {m N : Nat} (h : Pre w g f m N) (cap x : Nat) (hm : m ≤ 1000) (hf : ∀ j, f j < 256) (hx : x < 256) :
    Calls Try.prog 23 #[.slice (some ⟨g, 0, none⟩) m cap, .int .u8 (x : Int)] w fun e w' => e = .returned (.int .u8 (ev x (L f m) : Nat)) ∧ ∃ n, w' = w.drewN n := by
  have h2 := eval_walk _ cap (L f m) x w (h.reads hm) (L_bytes m hf) hx
  rw [L_length] at h2
  exact h2.mono fun _ _ hh => ⟨hh.1, hh.2.out⟩

theorem L_nought (n : Nat) : L (fun _ => 0) n = List.replicate n 0 := by
  apply List.ext_getElem?
  intro j
  by_cases hj : j < n
  · rw [L_get _ _ _ hj, List.getElem?_replicate, if_pos hj]; rfl
  · rw [List.getElem?_eq_none (by rw [L_length]; omega), List.getElem?_eq_none (by simp; omega)]
theorem vals_next (f : Nat → Nat) (m : Nat) : vals f (m + 1) = vals f m ++ [.int .u8 ((f m : Nat) : Int)] := by simp [vals, List.range_succ]
theorem one_ok (n : Int) : ∀ u ∈ [Value.int .u8 n], u.oneCell' = true := fun u hu => by rw [List.mem_singleton.1 hu]; rfl
theorem info5 : (Try.prog.info? 5).map (fun i => (i.zero, i.size, i.bytes)) = some (some (.int .u8 0), 1, 1) := by kernel_rfl
theorem make_base (n : Nat) (hn : n ≤ 256) (w : World) :
    (Instr.makeSlice 30 (.int .i64 1) (.int .i64 ((n : Int) + 1))).run Try.prog w = .ok (.slice (some ⟨w.heap.size, 0, none⟩) 1 (n + 1)) (w.alloc (.cells (cellsOf (L (fun _ => 0) (n + 1))) 5)) := by
  have hi : (Try.prog.info? 5).map (fun i => (i.zero, i.size, i.bytes)) = some (some (.int .u8 0), 1, 1) := by kernel_rfl
  obtain ⟨i0, h0, hz⟩ := Option.map_eq_some_iff.1 hi
  simp only [Prod.mk.injEq] at hz
  obtain ⟨hz0, hz1, hz2⟩ := hz
  have h := run_make (P := Try.prog) w 30 5 i0 (.int .u8 0) Try.underlying30 h0 hz0 .i64 .i64 1 ((n : Int) + 1) (by omega) (by omega) (by rw [hz2]; omega) (by omega)
  rw [h, show ((n : Int) + 1).toNat = n + 1 by omega]
  congr 3
  rw [hz1]
  apply cells_eq
  · simp [size_madeCells, L_length]
  · intro j hj
    have hj' : j < n + 1 := by simpa [L_length] using hj
    simp [madeCells, Value.cells, hj', Nat.mod_one, L]
theorem make_out (n : Nat) (hn : n ≤ 256) (w : World) :
    (Instr.makeSlice 30 (.int .i64 (n : Int)) (.int .i64 (n : Int))).run Try.prog w = .ok (.slice (some ⟨w.heap.size, 0, none⟩) n n) (w.alloc (.cells (cellsOf (L (fun _ => 0) n)) 5)) := by
  rw [make_bytes n hn, L_nought]

set_option maxRecDepth 100000 in
set_option maxHeartbeats 2000000 in
theorem coefficients_walk (A0 : Option Addr) (c0 : Nat) (xs : List Int) (A1 : Option Addr) (c1 : Nat) (ys : List Int) (w : World) (hr0 : Kd.C (Kd.int .u8) w A0 xs.length xs) (hr1 : Kd.C (Kd.int .u8) w A1 ys.length ys) (hb0 : Bytes xs) (hb1 : Bytes ys) (hd : dist xs = true) (hl : xs.length = ys.length) :
    Calls Try.prog 21 #[.slice A0 xs.length c0, .slice A1 ys.length c1] w fun e w' => ∃ v0_ : Value, e = .returned (.tuple #[v0_, .int .i64 0]) ∧ Kd.R (Kd.int .u8) 5 w' w.heap.size (fun _ => True) v0_ (coef xs ys) ∧ Below w.heap.size w w' := by
  have hlen : xs.length ≤ 255 := by simp [dist] at hd; omega
  have hlen1 : ys.length ≤ 255 := by omega
  have hne : ((xs.length : Int) != (ys.length : Int)) = false := by simp; omega
  have HD := Lib.hid hd
  have HL := Lib.hid hl
  clear hd hl
  go_enter Try.func21, Try.ntmps21
  go_wp2_with (first | (go_at_call 27; refine (distinct_walk A0 c0 xs _ hr0 hb0).mono ?_; rintro e w1 ⟨rfl, hbel1⟩; rw [HD.out]))
  have hm1 := make_out xs.length (by omega)
  have hm2 := make_base xs.length (by omega)
  go_cut [6, 7] (fun v6 v7 wc => ∃ g1 g2 : Nat, v6 = .slice (some ⟨g1, 0, none⟩) xs.length xs.length ∧ v7 = .slice (some ⟨g2, 0, none⟩) 1 (xs.length + 1) ∧ Pre wc g1 (fun _ => 0) xs.length xs.length ∧ Pre wc g2 (fun _ => 0) 1 (xs.length + 1) ∧ g1 ≠ g2 ∧ w1.heap.size ≤ g1 ∧ w1.heap.size ≤ g2 ∧ Below w1.heap.size w1 wc)
  case first =>
    go_region
    all_goals
      go_wp2_with fail
      go_meet
      case rel => first | exact ⟨_, _, rfl, rfl, makes_a w1 _, makes_b w1 _, by omega, by omega, by omega, makes_c w1 _ _⟩ | exact ⟨_, _, rfl, rfl, makes_d w1 _, makes_e w1 _, by omega, by omega, by omega, makes_c w1 _ _⟩
  case rest =>
    clear hm1 hm2
    obtain ⟨g1, g2, rfl, rfl, hk1, hk2, hne12, hg1, hg2, hbel2⟩ := hcut
    have hc20 := hk2.cell 0 (by omega)
    have hf20 := hk2.frozen 0
    go_wp2
    go_loopw [7, 36] (fun v7 v36 wr => ∃ i : Nat, i ≤ xs.length ∧ v36 = .int .i64 (i : Int) ∧ v7 = .slice (some ⟨g2, 0, none⟩) (i + 1) (xs.length + 1) ∧ Pre wr g1 (cst xs ys xs.length i).1 xs.length xs.length ∧ Pre wr g2 (cst xs ys xs.length i).2 (i + 1) (xs.length + 1) ∧ Below w1.heap.size w1 wr) (fun _ v36 _ => xs.length - (intOf v36).toNat)
    case atStart =>
      exact ⟨0, Nat.zero_le _, rfl, rfl, hk1.far hne12 _, hk2.put 0 1 (by omega) (fun j hj => rfl), hbel2.setCell hg2 _⟩
    case round =>
      obtain ⟨i, hi, rfl, rfl, hp1, hp2, hb3⟩ := hrel
      obtain ⟨hlt1, hlt2, hlt3⟩ := cst_lt (ys := ys) xs.length hb0 i
      by_cases hlt : i < xs.length
      · have hW : Below w.heap.size w wr := below_next hbel1 hb3
        obtain ⟨ad0, e0, hx0⟩ := Kd.at_int (Kd.C_below hr0 hW) (i : Int) (by omega) (by omega)
        obtain ⟨ad1, e1, hy0⟩ := Kd.at_int (Kd.C_below hr1 hW) (i : Int) (by omega) (by have := HL.out; omega)
        subst e0; subst e1
        rw [nb_rd hb0] at hx0
        rw [nb_rd hb1] at hy0
        simp only [Int.toNat_natCast] at hx0 hy0
        have hnx := nb_lt hb0 i
        have hny := nb_lt hb1 i
        have hev1 := ev_lt (nb xs i) _ (L_bytes xs.length hlt1)
        have hev2 := ev_lt (nb xs i) _ (L_bytes (i + 1) hlt2)
        have HX : Go.bits .xor .u8 (nb ys i : Int) (ev (nb xs i) (L (cst xs ys xs.length i).1 xs.length) : Int) = ((nb ys i ^^^ ev (nb xs i) (L (cst xs ys xs.length i).1 xs.length) : Nat) : Int) := u8_xor_nat _ _ hny hev1
        have hil : (i : Int) < (ys.length : Int) := by have := HL.out; omega
        go_wp2
        refine Q.wp_pivot 11 (by kernel_rfl) (by kernel_rfl) rfl (fun K hK => ?_)
        simp only [List.take_succ_cons, List.take_zero]
        repeat go_big_quiet_step ((go_at_call 23; first | ((with_reducible refine Calls.quiet_of (eval_pre (hp1.drewN _) _ _ ?_ hlt1 hnx)); omega) | ((with_reducible refine Calls.quiet_of (eval_pre (hp2.drewN _) _ _ ?_ hlt2 hnx)); omega)))
        refine wpQuiet_nil ?_
        intro _ hw'
        obtain ⟨nq, rfl⟩ := hw'
        go_wp2_with (first | (go_at_call 11; refine (div_walk _ _ _ (xor_lt _ _ hny hev1) hev2).mono ?_; rintro e w2 ⟨rfl, hbd⟩))
        simp only [List.drop_succ_cons, List.drop_zero]
        repeat go_big_quiet_step (fail)
        refine wpQuiet_nil ?_
        intro _ hw'
        obtain ⟨nq2, rfl⟩ := hw'
        go_wp2
        have hq1 : Pre (w2.drewN nq2) g1 (cst xs ys xs.length i).1 xs.length xs.length := ((hp1.drewN nq).below hbd hp1.lt).drewN nq2
        have hq2 : Pre (w2.drewN nq2) g2 (cst xs ys xs.length i).2 (i + 1) (xs.length + 1) := ((hp2.drewN nq).below hbd hp2.lt).drewN nq2
        have hb4 : Below w1.heap.size w1 (w2.drewN nq2) := below_drewN (below_next (below_drewN hb3 nq) hbd) nq2
        have hdl : dvs (nb ys i ^^^ ev (nb xs i) (L (cst xs ys xs.length i).1 xs.length)) (ev (nb xs i) (L (cst xs ys xs.length i).2 (i + 1))) < 256 := dvs_lt _ _ (xor_lt _ _ hny hev1)
        have hS : cst xs ys xs.length (i + 1) = (fun j => if j ≤ i then (cst xs ys xs.length i).1 j ^^^ mul ((cst xs ys xs.length i).2 j) (dvs (nb ys i ^^^ ev (nb xs i) (L (cst xs ys xs.length i).1 xs.length)) (ev (nb xs i) (L (cst xs ys xs.length i).2 (i + 1)))) else (cst xs ys xs.length i).1 j,
          fun j => if j = 0 then mul ((cst xs ys xs.length i).2 0) (nb xs i) else if j ≤ i + 1 then (cst xs ys xs.length i).2 (j - 1) ^^^ mul ((cst xs ys xs.length i).2 j) (nb xs i) else 0) := rfl
        generalize dvs (nb ys i ^^^ ev (nb xs i) (L (cst xs ys xs.length i).1 xs.length)) (ev (nb xs i) (L (cst xs ys xs.length i).2 (i + 1))) = d at hdl hS ⊢
        have HS := Lib.hid hS
        clear hS HX hev1 hev2 hx0 hy0 hc20 hf20 hp1 hp2 hbd hb3 hW hil hny
        generalize (cst xs ys xs.length i).1 = fo at hlt1 hq1 HS
        generalize (cst xs ys xs.length i).2 = fb at hlt2 hlt3 hq2 HS
        obtain ⟨wo, hwo⟩ : ∃ wo : World, wo = w2.drewN nq2 := ⟨_, rfl⟩
        rw [← hwo] at hq1 hq2 hb4 ⊢
        clear hwo
        go_loopw [58] (fun v58 wr => ∃ k : Nat, k ≤ i + 1 ∧ v58 = .int .i64 (k : Int) ∧ Pre wr g1 (fun j => if j < k then fo j ^^^ mul (fb j) d else fo j) xs.length xs.length ∧ Pre wr g2 fb (i + 1) (xs.length + 1) ∧ Below w1.heap.size w1 wr) (fun v58 _ => i + 1 - (intOf v58).toNat)
        case atStart => exact ⟨0, by omega, rfl, hq1.same (fun j _ => by simp), hq2, hb4⟩
        case round =>
          obtain ⟨k, hk, rfl, hr1', hr2', hb5⟩ := hrel
          by_cases hki : k < i + 1
          · have hcb := hr2'.cell k hki
            have hco := hr1'.cell k (by omega)
            have hfo := hr1'.frozen k
            simp only [Nat.lt_irrefl, if_false] at hco
            have HX : Go.bits .xor .u8 (fo k : Int) (mul (fb k) d : Int) = ((fo k ^^^ mul (fb k) d : Nat) : Int) := u8_xor_nat _ _ (hlt1 k) (mul_lt _ _ (hlt2 k))
            have hkn : (k : Int) < (xs.length : Int) := by omega
            have hfk := hlt2 k
            go_wp2
            go_still_tail 9, (by kernel_rfl)
            still_call (mul_still _ _ _ hfk hdl)
            repeat still_step
            refine wpStill_nil ?_
            change wpList _ _ _ _ _ wr.drew
            go_wp2
            go_roundw
            case rel =>
              refine ⟨k + 1, by omega, by go_num, (hr1'.put k (fo k ^^^ mul (fb k) d) (by omega) (fun j _ => ?_)).drew, (hr2'.far (p := ⟨g1, k, none⟩) (fun e => hne12 e.symm) _).drew, (hb5.setCell hg1 _).drew⟩
              by_cases e : j = k
              · subst e; simp
              · rw [if_neg e]
                by_cases hjk : j < k
                · rw [if_pos hjk, if_pos (by omega)]
                · rw [if_neg hjk, if_neg (by omega)]
            case measure => simp [intOf]; omega
          · obtain rfl : k = i + 1 := by omega
            have hu0 := hlt3 (i + 1) (by omega)
            have hs1 : Pre wr g1 (cst xs ys xs.length (i + 1)).1 xs.length xs.length := hr1'.same (fun j _ => by
              rw [HS.out]
              dsimp only
              by_cases hj : j ≤ i
              · rw [if_pos hj, if_pos (by omega)]
              · rw [if_neg hj, if_neg (by omega)])
            clear hr1' hq1 hq2 hb4
            have hv5 : (Try.prog.info? 5).map (fun i => (i.zero, i.size, i.bytes)) = some (some (.int .u8 0), 1, 1) := info5
            obtain ⟨i5, hi5, hz5⟩ := Option.map_eq_some_iff.1 hv5
            simp only [Prod.mk.injEq] at hz5
            obtain ⟨_, hsz5, _⟩ := hz5
            clear hv5
            go_wp2_with (first | (at_builtin; refine wpList_append_fits _ rfl _ _ 30 rfl g2 5 i5 1 Try.underlying30 hi5 hsz5 g2 (i + 1) (xs.length + 1) (vals fb (i + 1)) rfl ((hr2'.owns (by omega) (by omega)).alloc _) ⟨wr.heap.size, 0, none⟩ 1 1 [.int .u8 0] rfl rfl (cell_one_new _ _ _) (one_ok _) (by omega) ?_; intro w4 hown4 hgrow4))
            have ht1 : Pre w4 g1 (cst xs ys xs.length (i + 1)).1 xs.length xs.length := (hs1.alloc _).grown hgrow4 (fun e => hne12 (Option.some.inj e))
            have hva : vals fb (i + 1) ++ [Value.int .u8 0] = vals fb (i + 1 + 1) := by rw [vals_next fb (i + 1), hu0]; rfl
            have ht2 : Pre w4 g2 fb (i + 1 + 1) (xs.length + 1) := by
              rw [hva] at hown4
              exact Pre.of_owns hown4
            have hb6 : Below w1.heap.size w1 w4 := (hb5.alloc hb5.size _).grown hgrow4 (Nat.le_trans hb5.size (by simp)) (fun k hk => by injection hk with hk; omega)
            clear hs1 hr2' hgrow4 hown4 hva hb5 hu0 hi5 hsz5
            go_loopw [14] (fun v14 wz => ∃ k : Nat, k ≤ i + 1 ∧ v14 = .int .i64 (k : Int) ∧ Pre wz g1 (cst xs ys xs.length (i + 1)).1 xs.length xs.length ∧ Pre wz g2 (fun j => if k < j then fb (j - 1) ^^^ mul (fb j) (nb xs i) else fb j) (i + 1 + 1) (xs.length + 1) ∧ Below w1.heap.size w1 wz) (fun v14 _ => (intOf v14).toNat)
            case atStart => exact ⟨i + 1, Nat.le_refl _, by go_num, ht1, ht2.same (fun j hj => by rw [if_neg (by omega)]), hb6⟩
            case round =>
              obtain ⟨k, hk3, rfl, hz1, hz2, hb7⟩ := hrel
              by_cases hk0 : 0 < k
              · obtain ⟨m, rfl⟩ : ∃ m, k = m + 1 := ⟨k - 1, by omega⟩
                have e1 : ((m + 1 : Nat) : Int) = (m : Int) + 1 := by omega
                rw [e1]
                have hc1 := hz2.cell m (by omega)
                have hc2 := hz2.cell (m + 1) (by omega)
                have hf2 := hz2.frozen (m + 1)
                rw [if_neg (by omega)] at hc1 hc2
                have hfm := hlt2 m
                have hfm1 := hlt2 (m + 1)
                have HX : Go.bits .xor .u8 (fb m : Int) (mul (fb (m + 1)) (nb xs i) : Int) = ((fb m ^^^ mul (fb (m + 1)) (nb xs i) : Nat) : Int) := u8_xor_nat _ _ hfm (mul_lt _ _ hfm1)
                go_wp2
                have z1 : IntKind.i64.wrap (m : Int) = m := IntWalk.i64_in _ (by omega)
                have z2 : (m : Int) < (i : Int) + 1 + 1 := by omega
                have z3 : (m : Int) + 1 < (i : Int) + 1 + 1 := by omega
                have z4 : (0 : Int) ≤ (m : Int) + 1 := by omega
                have z5 : ((m : Int) + 1).toNat = m + 1 := by omega
                go_still_tail 15, (by kernel_rfl)
                still_call (mul_still _ _ _ hfm1 hnx)
                repeat still_step
                refine wpStill_nil ?_
                change wpList _ _ _ _ _ wr.drew
                go_wp2
                clear z1 z2 z3 z4 z5
                go_roundw
                case rel =>
                  refine ⟨m, by omega, rfl, (hz1.far (p := ⟨g2, m + 1, none⟩) hne12 _).drew, (hz2.put (m + 1) (fb m ^^^ mul (fb (m + 1)) (nb xs i)) (by omega) (fun j _ => ?_)).drew, (hb7.setCell hg2 _).drew⟩
                  by_cases e : j = m + 1
                  · subst e; simp
                  · rw [if_neg e]
                    by_cases hjk : m < j
                    · rw [if_pos hjk, if_pos (by omega)]
                    · rw [if_neg hjk, if_neg (by omega)]
                case measure => simp [intOf]
              · obtain rfl : k = 0 := by omega
                have hc0 := hz2.cell 0 (by omega)
                have hf0 := hz2.frozen 0
                rw [if_neg (by omega)] at hc0
                go_wp2_with (go_at_call 14; refine (mul_walk _ _ _ (hlt2 0) hnx).mono ?_; rintro e w' ⟨rfl, rfl⟩)
                go_roundw
                case rel =>
                  refine ⟨i + 1, by omega, by go_num, rfl, hz1.far (p := ⟨g2, 0, none⟩) hne12 _, hz2.put 0 (mul (fb 0) (nb xs i)) (by omega) (fun j hj => ?_), hb7.setCell hg2 _⟩
                  rw [HS.out]
                  dsimp only
                  by_cases e : j = 0
                  · rw [if_pos e, if_pos e]
                  · rw [if_neg e, if_neg e, if_pos (by omega), if_pos (by omega)]
                case measure => simp [intOf]; omega
      · obtain rfl : i = xs.length := by omega
        have hall : Below w.heap.size w wr := below_next hbel1 hb3
        go_wp2
        go_ret2
        refine ⟨_, rfl, ?_, hall⟩
        have h2 := Pre.owned hp1 (Nat.le_trans hbel1.size hg1) (by omega)
        exact h2

theorem coefficients_none (A0 : Option Addr) (c0 : Nat) (xs : List Int) (A1 : Option Addr) (c1 : Nat) (ys : List Int) (w : World) (hr0 : Kd.C (Kd.int .u8) w A0 xs.length xs) (hb0 : Bytes xs) (_hm : xs.length ≤ 9223372036854775807) (_hm1 : ys.length ≤ 9223372036854775807) (hd : ¬ (dist xs = true ∧ xs.length = ys.length)) :
    Calls Try.prog 21 #[.slice A0 xs.length c0, .slice A1 ys.length c1] w fun e w' => ∃ v0_ : Value, e = .returned (.tuple #[v0_, .int .i64 1]) ∧ Kd.R (Kd.int .u8) 5 w' w.heap.size (fun _ => True) v0_ [] ∧ Below w.heap.size w w' := by
  cases hx : dist xs with
  | false =>
    have HD := Lib.hid hx
    clear hx hd
    go_enter Try.func21, Try.ntmps21
    go_wp2_with (first | (go_at_call 27; refine (distinct_walk A0 c0 xs _ hr0 hb0).mono ?_; rintro e w1 ⟨rfl, hbel1⟩; rw [HD.out]))
    go_ret2
    exact ⟨_, rfl, Kd.R_nil _ _ _ _ _, hbel1⟩
  | true =>
    have hne : ((xs.length : Int) != (ys.length : Int)) = true := by
      have : xs.length ≠ ys.length := fun h => hd ⟨hx, h⟩
      simp; omega
    have HD := Lib.hid hx
    clear hx hd
    go_enter Try.func21, Try.ntmps21
    go_wp2_with (first | (go_at_call 27; refine (distinct_walk A0 c0 xs _ hr0 hb0).mono ?_; rintro e w1 ⟨rfl, hbel1⟩; rw [HD.out]))
    go_ret2
    exact ⟨_, rfl, Kd.R_nil _ _ _ _ _, hbel1⟩

def fEval (l : List Int) (x : Int) : Option Int := if Bytes l ∧ (0 ≤ x ∧ x ≤ 255) then some ((ev x.toNat l : Nat) : Int) else none
def fCoefficients (l0 l1 : List Int) : Option (List Int × Int) := if Bytes l0 ∧ Bytes l1 then some (if dist l0 = true ∧ l0.length = l1.length then (coef l0 l1, 0) else ([], 1)) else none
theorem eval_calls (A0 : Option Addr) (c0 : Nat) (l0 : List Int) (a1 : Int) (r : Int) (w : World) (hr0 : Kd.C (Kd.int .u8) w A0 l0.length l0) (_hc0 : l0.length ≤ c0) (h : fEval l0 a1 = some r) :
    Calls Try.prog 23 #[.slice A0 l0.length c0, .int .u8 a1] w fun e w' => e = .returned (.int .u8 r) ∧ Drawn0 w w' := by
  unfold fEval at h
  split at h
  · rename_i hc
    obtain ⟨x, rfl, hx, _⟩ := to_nat hc.2
    obtain rfl := Option.some.inj h
    exact eval_walk A0 c0 l0 x w hr0 hc.1 hx
  · cases h
theorem coefficients_calls (A0 : Option Addr) (c0 : Nat) (l0 : List Int) (A1 : Option Addr) (c1 : Nat) (l1 : List Int) (r1 : List Int) (r2 : Int) (w : World) (hr0 : Kd.C (Kd.int .u8) w A0 l0.length l0) (_hc0 : l0.length ≤ c0) (hr1 : Kd.C (Kd.int .u8) w A1 l1.length l1) (_hc1 : l1.length ≤ c1) (h : fCoefficients l0 l1 = some (r1, r2)) :
    Calls Try.prog 21 #[.slice A0 l0.length c0, .slice A1 l1.length c1] w fun e w' => ∃ v0_ : Value, e = .returned (.tuple #[v0_, .int .i64 r2]) ∧ Kd.R (Kd.int .u8) 5 w' w.heap.size (fun _ => True) v0_ r1 ∧ Below w.heap.size w w' := by
  unfold fCoefficients at h
  split at h
  · rename_i hc
    have h2 := Option.some.inj h
    by_cases hd : dist l0 = true ∧ l0.length = l1.length
    · rw [if_pos hd] at h2
      obtain ⟨rfl, rfl⟩ := Prod.mk.inj h2
      exact coefficients_walk A0 c0 l0 A1 c1 l1 w hr0 hr1 hc.1 hc.2 hd.1 hd.2
    · rw [if_neg hd] at h2
      obtain ⟨rfl, rfl⟩ := Prod.mk.inj h2
      exact coefficients_none A0 c0 l0 A1 c1 l1 w hr0 hc.1 hr0.2.1 hr1.2.1 hd
  · cases h
end Go.Proofs.Ytgijeelednmmkaa.Wd
