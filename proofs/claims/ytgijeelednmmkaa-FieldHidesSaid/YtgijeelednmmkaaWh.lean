/-
  The walk of the law FieldHides.
-/
import Derived.Test.YtgijeelednmmkaaWf
import Derived.Test.YtgijeelednmmkaaGh
namespace Go.Proofs.Ytgijeelednmmkaa.Wh
open Go.RowKit Go.Proofs.Ytgijeelednmmkaa.M Go.Proofs.Ytgijeelednmmkaa.B Go.Proofs.Ytgijeelednmmkaa.Wa Go.Proofs.Ytgijeelednmmkaa.Wb Go.Proofs.Ytgijeelednmmkaa.Wc Go.Proofs.Ytgijeelednmmkaa.Wd Go.Proofs.Ytgijeelednmmkaa.We Go.Proofs.Ytgijeelednmmkaa.Wf Go.Proofs.Ytgijeelednmmkaa.G Go.Proofs.Ytgijeelednmmkaa.Gp Go.Proofs.Ytgijeelednmmkaa.Gl Go.Proofs.Ytgijeelednmmkaa.Gw Go.Proofs.Ytgijeelednmmkaa.Gq Go.Proofs.Ytgijeelednmmkaa.Gh Go.Proofs.YtgijeelednmmkaaW.PrintWords

theorem hides_short (A0 A1 : Option Addr) (c0 c1 : Nat) (l0 l1 : List Int) (a b x : Int) (w : World) (hlen : l0.length ≤ 9223372036854775807) (hlen1 : l1.length ≤ 9223372036854775807) (h : ¬ (l0.length ≤ 40 ∧ l0.length = l1.length)) :
    Calls Try.prog 8 #[.slice A0 l0.length c0, .slice A1 l1.length c1, .int .u8 a, .int .u8 b, .int .u8 x] w fun e w' => e = .returned (.bool true) ∧ Below w.heap.size w w' := by
  by_cases hf : l0.length ≤ 40 ∧ l1.length ≤ 40
  · have HF := Lib.hid (show (decide (l0.length ≤ 40) && decide (l1.length ≤ 40)) = true by simp [hf])
    have hne : ((l0.length : Int) != (l1.length : Int)) = true := by simp; omega
    go_enter Try.func8, Try.ntmps8
    go_wp2_with fail
    go_at_call 16
    refine (few_walk _ _ _ _ _ _ _ hlen hlen1).mono ?_
    rintro e w' ⟨rfl, rfl⟩
    rw [HF.out]
    go_wp2_with (first | (go_at_call 13; refine (sanity_walk _).mono ?_; rintro e w2 ⟨rfl, hb2⟩))
    go_ret
    exact ⟨rfl, hb2⟩
  · have HF := Lib.hid (show (decide (l0.length ≤ 40) && decide (l1.length ≤ 40)) = false by simp; omega)
    go_enter Try.func8, Try.ntmps8
    go_wp2_with fail
    go_at_call 16
    refine (few_walk _ _ _ _ _ _ _ hlen hlen1).mono ?_
    rintro e w' ⟨rfl, rfl⟩
    rw [HF.out]
    go_wp2_with (first | (go_at_call 13; refine (sanity_walk _).mono ?_; rintro e w2 ⟨rfl, hb2⟩))
    go_ret
    exact ⟨rfl, hb2⟩


/-- A new slice of one byte. -/
theorem one_R (w : World) (z : Int) : Kd.R (Kd.int .u8) 5 (w.alloc (.cells #[.int .u8 z] 5)) w.heap.size (fun _ => True) (.slice (some ⟨w.heap.size, 0, none⟩) 1 1) [z] := by
  refine ⟨fun k _ => trivial, [.int .u8 z], ?_, Reps.one (show Kd.M (Kd.int .u8) _ _ _ z [.int .u8 z] from rfl) (Reps.none _ _)⟩
  have h2 := World.ownsRow_lit (base := w.heap.size) (e := 5) (size := 1) w #[.int .u8 z] 1 (Nat.le_refl _) (by decide) (by simp)
  exact h2

/-- A slice behind a new slice of one byte. -/
theorem one_append {A0 : Option Addr} {a : Act} {c0 : Nat} {ops : Array Oper} {rest : List Oper} {Q : Exit → Act → World → Prop} {o : Oper} {s x : Operand} (w : World) (z : Int) (l0 L : List Int) (hgd : o.guard = none) (ho : o.op = .call { callee := .builtin .append, args := #[s, x], argTypes := #[30, 30] })
    (hs : a.eval s = .slice (some ⟨w.heap.size, 0, none⟩) 1 1) (hx : a.eval x = .slice A0 l0.length c0) (hr0 : Kd.C (Kd.int .u8) w A0 l0.length l0) (hf : l0.length ≤ 40) (hL : Hid ([z] ++ l0 = L))
    (h : ∀ A2 c2 w2, Kd.C (Kd.int .u8) w2 A2 L.length L → Below w.heap.size w w2 → wpList Try.prog ops Q rest (a.put o.dst (.slice A2 L.length c2)) w2) : wpList Try.prog ops Q (o :: rest) a (w.alloc (.cells #[.int .u8 z] 5)) := by
  refine Kd.R_append_rows (Kd.int .u8) (w0 := w) w.heap.size hgd s x 30 5 (.int .u8 0) 1 ho Try.underlying30 info5 rfl (by decide) (by decide) _ [z] l0 _ _ _ (fun _ => True) (fun _ => False) hs hx (one_R w z) (Kd.C_below hr0 (below_alloc (Below.refl _ _) _)) (fun _ _ h => h) (fun _ h => h.elim) (fun _ _ => trivial) (below_alloc (Below.refl _ _) _) (below_alloc (Below.refl w.heap.size w) (.cells #[.int .u8 z] 5)).size (by simp; omega) ?_
  intro v2 w2 hR2 hB2 _ _
  rw [hL.out] at hR2
  obtain ⟨A2, c2, rfl, _, hC2⟩ := Kd.R_reads hR2
  exact h A2 c2 w2 hC2 hB2

set_option maxHeartbeats 4000000 in
set_option maxRecDepth 100000 in
/-- Elements at which there is no polynomial. -/
theorem hides_none (A0 A1 : Option Addr) (c0 c1 : Nat) (l0 l1 X Ya Yb : List Int) (a b x : Nat) (w : World) (hr0 : Kd.C (Kd.int .u8) w A0 l0.length l0) (hr1 : Kd.C (Kd.int .u8) w A1 l1.length l1) (hX : Bytes X) (hf : l0.length ≤ 40) (hl : l0.length = l1.length) (hx0 : [0] ++ l0 = X) (hy0 : [(a : Int)] ++ l1 = Ya) (hy1 : [(b : Int)] ++ l1 = Yb) (hd : dist X = false) :
    Calls Try.prog 8 #[.slice A0 l0.length c0, .slice A1 l1.length c1, .int .u8 (a : Int), .int .u8 (b : Int), .int .u8 (x : Int)] w fun e w' => e = .returned (.bool true) ∧ Below w.heap.size w w' := by
  have HF := Lib.hid (show (decide (l0.length ≤ 40) && decide (l1.length ≤ 40)) = true by simp; omega)
  have hne : ((l0.length : Int) != (l1.length : Int)) = false := by simp; omega
  have hlen : l0.length ≤ 9223372036854775807 := by omega
  have hlen1 : l1.length ≤ 9223372036854775807 := by omega
  have hXl : X.length ≤ 41 := by rw [← hx0]; simp; omega
  have hYa : Ya.length ≤ 41 := by rw [← hy0]; simp; omega
  have hYb : Yb.length ≤ 41 := by rw [← hy1]; simp; omega
  have HD := Lib.hid hd
  have HL := Lib.hid hl
  have hl40 : l1.length ≤ 40 := by omega
  have HX0 := Lib.hid hx0
  have HY0 := Lib.hid hy0
  have HY1 := Lib.hid hy1
  clear hd hl hx0 hy0 hy1
  go_enter Try.func8, Try.ntmps8
  go_wp2_with fail
  go_at_call 16
  refine (few_walk _ _ _ _ _ _ _ hlen hlen1).mono ?_
  rintro e w' ⟨rfl, rfl⟩
  rw [HF.out]
  go_wp2_with (first
    | ((with_reducible refine gate_builtin (b := .append) (xs := #[.tmp 32, .tmp 33]) rfl ?_); at_builtin; refine one_append (s := .tmp 32) (x := .tmp 33) w 0 l0 X rfl rfl rfl rfl hr0 hf HX0 ?_; intro A2 c2 w2 hC2 hB2; have hr1b := Kd.C_below hr1 hB2)
    | ((with_reducible refine gate_builtin (b := .append) (xs := #[.tmp 36, .tmp 37]) rfl ?_); at_builtin; refine one_append (s := .tmp 36) (x := .tmp 37) w2 a l1 Ya rfl rfl rfl rfl hr1b hl40 HY0 ?_; intro A3 c3 w3 hC3 hB3; have hC2b := Kd.C_below hC2 hB3)
    | (go_at_call 21; with_reducible refine (coefficients_none _ _ X _ _ Ya _ hC2b hX (by omega) (by omega) (fun h => by have h2 := h.1; rw [HD.out] at h2; cases h2)).mono ?_; rintro e w4 ⟨v4, rfl, hR4, hB4⟩; have hW4 := below_next (below_next hB2 hB3) hB4; have hr0b := Kd.C_below hr0 hW4; have hr1c := Kd.C_below hr1 hW4; clear hB2 hB3 hB4)
    | ((with_reducible refine gate_builtin (b := .append) (xs := #[.tmp 43, .tmp 44]) rfl ?_); at_builtin; refine one_append (s := .tmp 43) (x := .tmp 44) w4 0 l0 X rfl rfl rfl rfl hr0b hf HX0 ?_; intro A5 c5 w5 hC5 hB5; have hr1d := Kd.C_below hr1c hB5)
    | ((with_reducible refine gate_builtin (b := .append) (xs := #[.tmp 47, .tmp 48]) rfl ?_); at_builtin; refine one_append (s := .tmp 47) (x := .tmp 48) w5 b l1 Yb rfl rfl rfl rfl hr1d hl40 HY1 ?_; intro A6 c6 w6 hC6 hB6; have hC5b := Kd.C_below hC5 hB6)
    | (go_at_call 21; with_reducible refine (coefficients_none _ _ X _ _ Yb _ hC5b hX (by omega) (by omega) (fun h => by have h2 := h.1; rw [HD.out] at h2; cases h2)).mono ?_; rintro e w7 ⟨v7, rfl, hR7, hB7⟩; have hW7 := below_next (below_next (below_next hW4 hB5) hB6) hB7)
    | (go_at_call 13; refine (sanity_walk _).mono ?_; rintro e w8 ⟨rfl, hb8⟩))
  go_ret
  exact ⟨rfl, below_next hW7 hb8⟩

theorem eval_at {A0 : Option Addr} {c0 n : Nat} (l : List Int) (x : Nat) {w : World} (hr : Kd.C (Kd.int .u8) w A0 n l) (hn : l.length = n) (hb : Bytes l) (hx : x < 256) {i : Int} (hi : i = (x : Int)) {r : Nat} (he : ev x l = r) :
    Calls Try.prog 23 #[.slice A0 n c0, .int .u8 i] w fun e w' => e = .returned (.int .u8 (r : Int)) ∧ ∃ m, w' = w.drewN m := by
  subst hn; subst hi; subst he
  exact (eval_walk A0 c0 l x w hr hb hx).mono fun e w' h => ⟨h.1, h.2.out⟩

set_option maxHeartbeats 4000000 in
set_option maxRecDepth 100000 in
/-- Elements at which there are polynomials. -/
theorem hides_in (A0 A1 : Option Addr) (c0 c1 : Nat) (l0 l1 X Ya Yb P R : List Int) (a b x : Nat) (w : World) (hr0 : Kd.C (Kd.int .u8) w A0 l0.length l0) (hr1 : Kd.C (Kd.int .u8) w A1 l1.length l1) (hb0 : Bytes l0) (hb1 : Bytes l1) (_ha : a < 256) (_hb : b < 256) (hx : x < 256)
    (hX : Bytes X) (hYa : Bytes Ya) (hYb : Bytes Yb) (hf : l0.length ≤ 40) (hl : l0.length = l1.length) (hx0 : [0] ++ l0 = X) (hy0 : [(a : Int)] ++ l1 = Ya) (hy1 : [(b : Int)] ++ l1 = Yb) (hd : dist X = true)
    (hP : coef X Ya = P) (hR : coef X Yb = R) (hPl : P.length = l0.length + 1) (hRl : R.length = l0.length + 1) (hPb : Bytes P) (hRb : Bytes R) (hP0 : ev 0 P = a) (hR0 : ev 0 R = b) (hPj : ∀ j, j < l0.length → ev (nb l0 j) P = nb l1 j) (hRj : ∀ j, j < l0.length → ev (nb l0 j) R = nb l1 j)
    (hsame : ev x P = ev x R ↔ (∃ j, j < l0.length ∧ nb l0 j = x) ∨ a = b) :
    Calls Try.prog 8 #[.slice A0 l0.length c0, .slice A1 l1.length c1, .int .u8 (a : Int), .int .u8 (b : Int), .int .u8 (x : Int)] w fun e w' => e = .returned (.bool true) ∧ Below w.heap.size w w' := by
  have HF := Lib.hid (show (decide (l0.length ≤ 40) && decide (l1.length ≤ 40)) = true by simp; omega)
  have hne : ((l0.length : Int) != (l1.length : Int)) = false := by simp; omega
  have hlen : l0.length ≤ 9223372036854775807 := by omega
  have hlen1 : l1.length ≤ 9223372036854775807 := by omega
  have hXa : X.length = Ya.length := by rw [← hy0, ← hx0]; simp; omega
  have hXb : X.length = Yb.length := by rw [← hy1, ← hx0]; simp; omega
  have HD := Lib.hid hd
  have HL := Lib.hid hl
  have hl40 : l1.length ≤ 40 := by omega
  have HX0 := Lib.hid hx0
  have HY0 := Lib.hid hy0
  have HY1 := Lib.hid hy1
  have HXa := Lib.hid hXa
  have HXb := Lib.hid hXb
  have HP := Lib.hid hP
  have HR := Lib.hid hR
  have HPl := Lib.hid hPl
  have HRl := Lib.hid hRl
  have HP0 := Lib.hid hP0
  have HR0 := Lib.hid hR0
  have HPj := Lib.hid hPj
  have HRj := Lib.hid hRj
  have HS := Lib.hid hsame
  have hwr : IntKind.i64.wrap ((l0.length : Int) + 1) = (l0.length : Int) + 1 := by
    rw [show (l0.length : Int) + 1 = ((l0.length + 1 : Nat) : Int) by omega]
    have h3 : l0.length + 1 ≤ 41 := by omega
    generalize l0.length + 1 = m at h3
    exact IntWalk.i64_in _ (by omega)
  clear hd hl hx0 hy0 hy1 hXa hXb hP hR hPl hRl hP0 hR0 hPj hRj hsame
  go_enter Try.func8, Try.ntmps8
  go_wp2_with fail
  go_at_call 16
  refine (few_walk _ _ _ _ _ _ _ hlen hlen1).mono ?_
  rintro e w' ⟨rfl, rfl⟩
  rw [HF.out]
  go_wp2_with (first
    | ((with_reducible refine gate_builtin (b := .append) (xs := #[.tmp 32, .tmp 33]) rfl ?_); at_builtin; refine one_append (s := .tmp 32) (x := .tmp 33) w 0 l0 X rfl rfl rfl rfl hr0 hf HX0 ?_; intro A2 c2 w2 hC2 hB2; have hr1b := Kd.C_below hr1 hB2)
    | ((with_reducible refine gate_builtin (b := .append) (xs := #[.tmp 36, .tmp 37]) rfl ?_); at_builtin; refine one_append (s := .tmp 36) (x := .tmp 37) w2 a l1 Ya rfl rfl rfl rfl hr1b hl40 HY0 ?_; intro A3 c3 w3 hC3 hB3; have hC2b := Kd.C_below hC2 hB3)
    | (go_at_call 21; with_reducible refine (coefficients_walk _ _ X _ _ Ya _ hC2b hC3 hX hYa HD.out HXa.out).mono ?_; rintro e w4 ⟨v4, rfl, hR4, hB4⟩; have hW4 := below_next (below_next hB2 hB3) hB4; have hr0b := Kd.C_below hr0 hW4; have hr1c := Kd.C_below hr1 hW4; clear hB2 hB3 hB4; obtain ⟨Ap, cp, hv4, _, hCp⟩ := Kd.R_reads hR4; rw [HP.out] at hv4 hCp; rw [HPl.out] at hv4 hCp; subst hv4; clear hR4)
    | ((with_reducible refine gate_builtin (b := .append) (xs := #[.tmp 43, .tmp 44]) rfl ?_); at_builtin; refine one_append (s := .tmp 43) (x := .tmp 44) w4 0 l0 X rfl rfl rfl rfl hr0b hf HX0 ?_; intro A5 c5 w5 hC5 hB5; have hr1d := Kd.C_below hr1c hB5)
    | ((with_reducible refine gate_builtin (b := .append) (xs := #[.tmp 47, .tmp 48]) rfl ?_); at_builtin; refine one_append (s := .tmp 47) (x := .tmp 48) w5 b l1 Yb rfl rfl rfl rfl hr1d hl40 HY1 ?_; intro A6 c6 w6 hC6 hB6; have hC5b := Kd.C_below hC5 hB6)
    | (go_at_call 21; with_reducible refine (coefficients_walk _ _ X _ _ Yb _ hC5b hC6 hX hYb HD.out HXb.out).mono ?_; rintro e w7 ⟨v7, rfl, hR7, hB7⟩; have hW47 := below_next (below_next hB5 hB6) hB7; have hW7 := below_next hW4 hW47; obtain ⟨Aq, cq, hv7, _, hCq⟩ := Kd.R_reads hR7; rw [HR.out] at hv7 hCq; rw [HRl.out] at hv7 hCq; subst hv7; have hCp7 := Kd.C_below hCp hW47; have hr07 := Kd.C_below hr0 hW7; have hr17 := Kd.C_below hr1 hW7; clear hR7 hW47 hB5 hB6 hB7 hW4 hC5b hr1d hr0b hr1c hC2b hr1b hC2 hC3 hC5 hC6 hCp hr0 hr1))
  have far : ∀ m, Below w7.heap.size w7 (w7.drewN m) := fun m => below_drewN (Below.refl _ _) m
  have hqa : ((a : Int) != (a : Int)) = false := by simp
  have hqb : ((b : Int) != (b : Int)) = false := by simp
  with_reducible refine (eval_at P 0 (i := 0) hCp7 HPl.out hPb (by omega) rfl HP0.out).mono ?_
  rintro e _ ⟨rfl, m1, rfl⟩
  have hCq1 := Kd.C_below hCq (far m1)
  go_wp2_with (first
    | (with_reducible refine (eval_at R 0 (i := 0) hCq1 HRl.out hRb (by omega) rfl HR0.out).mono ?_; rintro e _ ⟨rfl, m2, rfl⟩))
  have hW8 : Below w.heap.size w (w7.drewN (m1 + m2)) := below_drewN hW7 _
  have hCp8 := Kd.C_below hCp7 (far (m1 + m2))
  have hCq8 := Kd.C_below hCq (far (m1 + m2))
  have hr08 := Kd.C_below hr07 (far (m1 + m2))
  have hr18 := Kd.C_below hr17 (far (m1 + m2))
  generalize w7.drewN (m1 + m2) = w8 at hW8 hCp8 hCq8 hr08 hr18 ⊢
  clear hCq1 far hCp7 hCq hr07 hr17 hwr hqa hqb
  go_loopw [16, 17] (fun v16 v17 wr => ∃ i : Nat, i ≤ l0.length ∧ v17 = .int .i64 (i : Int) ∧ v16 = .bool (known l0 x i) ∧ Below w8.heap.size w8 wr) (fun _ v17 _ => l0.length - (intOf v17).toNat)
  case atStart => exact ⟨0, Nat.zero_le _, rfl, by rw [known_zero], Below.refl _ _⟩
  case round =>
    obtain ⟨i, hi, rfl, rfl, hbr⟩ := hrel
    have hCp9 := Kd.C_below hCp8 hbr
    have hCq9 := Kd.C_below hCq8 hbr
    have hW9 := below_next hW8 hbr
    by_cases hlt : i < l0.length
    · obtain ⟨ad0, e0, hx0⟩ := Kd.at_int (Kd.C_below hr08 hbr) (i : Int) (by omega) (by omega)
      obtain ⟨ad1, e1, hy0⟩ := Kd.at_int (Kd.C_below hr18 hbr) (i : Int) (by omega) (by have := HL.out; omega)
      subst e0; subst e1
      rw [nb_rd hb0] at hx0
      rw [nb_rd hb1] at hy0
      simp only [Int.toNat_natCast] at hx0 hy0
      have hnx := nb_lt hb0 i
      have hil : (i : Int) < (l1.length : Int) := by have := HL.out; omega
      have hpi := Lib.hid (HPj.out i hlt)
      have hri := Lib.hid (HRj.out i hlt)
      have hqi : ((nb l1 i : Int) != (nb l1 i : Int)) = false := by simp
      have HN := Lib.hid (known_next l0 x i)
      cases hk : known l0 x i with
      | true =>
        rw [hk] at HN
        have HN1 := Lib.hid (show known l0 x (i + 1) = true by rw [HN.out]; rfl)
        clear HN hk
        go_wp2
        go_quiet (first | (go_at_call 23; (with_reducible refine Calls.quiet_of (eval_at P (nb l0 i) (Kd.C_drewN hCp9 _) HPl.out hPb hnx rfl hpi.out))) | (with_reducible refine Calls.quiet_of (eval_at R (nb l0 i) (Kd.C_drewN hCq9 _) HRl.out hRb hnx rfl hri.out)))
        go_wp2
        go_round
        case rel => exact ⟨i + 1, by omega, by go_num, by rw [HN1.out], below_drewN hbr _⟩
        case measure => simp [intOf]; omega
      | false =>
        rw [hk] at HN
        by_cases hq : nb l0 i = x
        · have t1 : ((nb l0 i : Int) == (x : Int)) = true := by simp; omega
          have HN1 := Lib.hid (show known l0 x (i + 1) = true by rw [HN.out, decide_eq_true hq]; rfl)
          clear HN hk hq
          go_wp2
          go_quiet (first | (go_at_call 23; (with_reducible refine Calls.quiet_of (eval_at P (nb l0 i) (Kd.C_drewN hCp9 _) HPl.out hPb hnx rfl hpi.out))) | (with_reducible refine Calls.quiet_of (eval_at R (nb l0 i) (Kd.C_drewN hCq9 _) HRl.out hRb hnx rfl hri.out)))
          go_wp2
          go_round
          case rel => exact ⟨i + 1, by omega, by go_num, by rw [HN1.out], below_drewN hbr _⟩
          case measure => simp [intOf]; omega
        · have t1 : ((nb l0 i : Int) == (x : Int)) = false := by simp; omega
          have HN1 := Lib.hid (show known l0 x (i + 1) = false by rw [HN.out, decide_eq_false hq]; rfl)
          clear HN hk hq
          go_wp2
          go_quiet (first | (go_at_call 23; (with_reducible refine Calls.quiet_of (eval_at P (nb l0 i) (Kd.C_drewN hCp9 _) HPl.out hPb hnx rfl hpi.out))) | (with_reducible refine Calls.quiet_of (eval_at R (nb l0 i) (Kd.C_drewN hCq9 _) HRl.out hRb hnx rfl hri.out)))
          go_wp2
          go_round
          case rel => exact ⟨i + 1, by omega, by go_num, by rw [HN1.out], below_drewN hbr _⟩
          case measure => simp [intOf]; omega
    · obtain rfl : i = l0.length := by omega
      clear hlt hi
      have HS2 := HS.out
      obtain ⟨ep, hep0⟩ : ∃ v, ev x P = v := ⟨_, rfl⟩
      obtain ⟨er, her0⟩ : ∃ v, ev x R = v := ⟨_, rfl⟩
      rw [hep0, her0] at HS2
      have hep := Lib.hid hep0
      have her := Lib.hid her0
      clear hep0 her0
      cases hk : known l0 x l0.length with
      | true =>
        have h1 : ep = er := HS2.2 (.inl (of_decide_eq_true hk))
        have t1 : ((ep : Int) == (er : Int)) = true := by simp [h1]
        clear h1 hk HS2 HS
        go_wp2_with (first
          | (go_at_call 13; with_reducible refine (sanity_walk _).mono ?_; rintro e w10 ⟨rfl, hb10⟩; have hCp10 := Kd.C_below hCp9 hb10; have hCq10 := Kd.C_below hCq9 hb10; have far := fun m => below_drewN (Below.refl w10.heap.size w10) m)
          | (with_reducible refine (eval_at P x hCp10 HPl.out hPb hx rfl hep.out).mono ?_; rintro e _ ⟨rfl, m3, rfl⟩; have hCq11 := Kd.C_below hCq10 (far m3))
          | (with_reducible refine (eval_at R x hCq11 HRl.out hRb hx rfl her.out).mono ?_; rintro e _ ⟨rfl, m4, rfl⟩))
        go_ret
        exact ⟨rfl, below_drewN (below_next hW9 hb10) _⟩
      | false =>
        have hk2 := of_decide_eq_false hk
        by_cases hab : a = b
        · have h1 : ep = er := HS2.2 (.inr hab)
          have t1 : ((ep : Int) == (er : Int)) = true := by simp [h1]
          have t2 : ((a : Int) == (b : Int)) = true := by simp [hab]
          clear h1 hk HS2 HS hab hk2
          go_wp2_with (first
            | (go_at_call 13; with_reducible refine (sanity_walk _).mono ?_; rintro e w10 ⟨rfl, hb10⟩; have hCp10 := Kd.C_below hCp9 hb10; have hCq10 := Kd.C_below hCq9 hb10; have far := fun m => below_drewN (Below.refl w10.heap.size w10) m)
            | (with_reducible refine (eval_at P x hCp10 HPl.out hPb hx rfl hep.out).mono ?_; rintro e _ ⟨rfl, m3, rfl⟩; have hCq11 := Kd.C_below hCq10 (far m3))
            | (with_reducible refine (eval_at R x hCq11 HRl.out hRb hx rfl her.out).mono ?_; rintro e _ ⟨rfl, m4, rfl⟩))
          go_ret
          exact ⟨rfl, below_drewN (below_next hW9 hb10) _⟩
        · have h1 : ep ≠ er := fun h => (HS2.1 h).elim hk2 hab
          have t1 : ((ep : Int) == (er : Int)) = false := by simp; omega
          have t2 : ((a : Int) == (b : Int)) = false := by simp; omega
          clear h1 hk HS2 HS hab hk2
          go_wp2_with (first
            | (go_at_call 13; with_reducible refine (sanity_walk _).mono ?_; rintro e w10 ⟨rfl, hb10⟩; have hCp10 := Kd.C_below hCp9 hb10; have hCq10 := Kd.C_below hCq9 hb10; have far := fun m => below_drewN (Below.refl w10.heap.size w10) m)
            | (with_reducible refine (eval_at P x hCp10 HPl.out hPb hx rfl hep.out).mono ?_; rintro e _ ⟨rfl, m3, rfl⟩; have hCq11 := Kd.C_below hCq10 (far m3))
            | (with_reducible refine (eval_at R x hCq11 HRl.out hRb hx rfl her.out).mono ?_; rintro e _ ⟨rfl, m4, rfl⟩))
          go_ret
          exact ⟨rfl, below_drewN (below_next hW9 hb10) _⟩

/-- The law's walk. -/
theorem hides_law (a0 : Option Addr) (len0 cap0 : Nat) (z0 : List Int) (a1 : Option Addr) (len1 cap1 : Nat) (z1 : List Int) (a2 a3 a4 : Int) (w : World) (w0 : (a0 = none ∧ len0 = 0 ∧ cap0 = 0 ∧ z0 = []) ∨ ∃ x, a0 = some x ∧ len0 ≤ cap0 ∧ cap0 ≤ maxLen ∧ z0.length = cap0 ∧ (∀ i, i < z0.length → w.cell? (x.add i) = some (.int .u8 (z0.getD i 0))) ∧ ∀ n ∈ z0, (Lit.int .u8 n).wf = true)
    (w1 : (a1 = none ∧ len1 = 0 ∧ cap1 = 0 ∧ z1 = []) ∨ ∃ x, a1 = some x ∧ len1 ≤ cap1 ∧ cap1 ≤ maxLen ∧ z1.length = cap1 ∧ (∀ i, i < z1.length → w.cell? (x.add i) = some (.int .u8 (z1.getD i 0))) ∧ ∀ n ∈ z1, (Lit.int .u8 n).wf = true) (w2 : (Lit.int .u8 a2).wf = true) (w3 : (Lit.int .u8 a3).wf = true) (w4 : (Lit.int .u8 a4).wf = true) :
    Calls Try.prog 8 #[.slice a0 len0 cap0, .slice a1 len1 cap1, .int .u8 a2, .int .u8 a3, .int .u8 a4] w fun e w' => e = .returned (.bool true) ∧ Below w.heap.size w w' := by
  obtain ⟨l0, rfl, hr0, hm0, hw0, hc0⟩ := ReadsInt.ofRowC w0
  obtain ⟨l1, rfl, hr1, hm1, hw1, hc1⟩ := ReadsInt.ofRowC w1
  have hr0 := Kd.C_of_reads (d := (0 : Int)) (h1 := fun _ => rfl) hr0
  have hr1 := Kd.C_of_reads (d := (0 : Int)) (h1 := fun _ => rfl) hr1
  have hb0 := Gf.bytes_of hw0
  have hb1 := Gf.bytes_of hw1
  obtain ⟨a, rfl, ha⟩ : ∃ x : Nat, a2 = (x : Int) ∧ x < 256 := ⟨a2.toNat, by have := Gf.byte_of w2; omega, by have := Gf.byte_of w2; omega⟩
  obtain ⟨b, rfl, hb⟩ : ∃ x : Nat, a3 = (x : Int) ∧ x < 256 := ⟨a3.toNat, by have := Gf.byte_of w3; omega, by have := Gf.byte_of w3; omega⟩
  obtain ⟨x, rfl, hx⟩ : ∃ x : Nat, a4 = (x : Int) ∧ x < 256 := ⟨a4.toNat, by have := Gf.byte_of w4; omega, by have := Gf.byte_of w4; omega⟩
  have hX : Bytes (0 :: l0) := bytes_cons hb0 0 (by omega)
  by_cases h : l0.length ≤ 40 ∧ l0.length = l1.length
  · cases hd : dist (0 :: l0) with
    | false => exact hides_none _ _ _ _ l0 l1 _ _ _ a b x w hr0 hr1 hX h.1 h.2 rfl rfl rfl hd
    | true =>
      exact hides_in _ _ _ _ l0 l1 _ _ _ _ _ a b x w hr0 hr1 hb0 hb1 ha hb hx hX (bytes_cons hb1 a ha) (bytes_cons hb1 b hb) h.1 h.2 rfl rfl rfl hd rfl rfl
        (by rw [coef_length]; rfl) (by rw [coef_length]; rfl) (coef_bytes _ _ hX) (coef_bytes _ _ hX) (at_zero l0 l1 a hb0 hb1 ha hd) (at_zero l0 l1 b hb0 hb1 hb hd)
        (at_point l0 l1 a hb0 hb1 ha hd) (at_point l0 l1 b hb0 hb1 hb hd) (same_iff l0 l1 a b x hb0 hb1 ha hb hx hd)
  · exact hides_short _ _ _ _ l0 l1 _ _ _ w hm0 hm1 h
end Go.Proofs.Ytgijeelednmmkaa.Wh
