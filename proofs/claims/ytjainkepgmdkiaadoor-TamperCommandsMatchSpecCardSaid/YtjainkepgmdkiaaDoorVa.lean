/-
  The specification: validity, the total, being over, the first errors. (Written by a program.)
-/
import Derived.Test.YtjainkepgmdkiaaDoorUa
namespace Go.Proofs.YtjainkepgmdkiaaDoor.Va
open Go.RowKit Go.Proofs.YtjainkepgmdkiaaDoor.B Go.Proofs.YtjainkepgmdkiaaDoor.Ta Go.Proofs.YtjainkepgmdkiaaDoor.Tb Go.Proofs.YtjainkepgmdkiaaDoor.Tc Go.Proofs.YtjainkepgmdkiaaDoor.Tz Go.Proofs.YtjainkepgmdkiaaDoor.Te Go.Proofs.YtjainkepgmdkiaaDoor.Th Go.Proofs.YtjainkepgmdkiaaDoor.Ti Go.Proofs.YtjainkepgmdkiaaDoor.Ua
abbrev RV (s : Tm) (r : Bool) : Prop := ∀ w, Calls Tryd.prog 34 #[.agg #[.int .i64 s.m, .int .i64 s.t, .int .i64 s.a, .int .i64 s.b, .int .i64 s.c, .int .i64 s.d]] w fun e w' => e = .returned (.bool r) ∧ Below w.heap.size w w'
set_option maxHeartbeats 4000000 in
set_option maxRecDepth 100000 in
theorem rvalid (s : Tm) (r : Bool) (hr : r = true ↔ Vld s) : RV s r := by
  intro w
  have bE : Below w.heap.size w (w.alloc (.cells #[.int .i64 s.m, .int .i64 s.t, .int .i64 s.a, .int .i64 s.b, .int .i64 s.c, .int .i64 s.d] 27)) := (Below.refl _ _).alloc (Nat.le_refl _) _
  have hf : ¬ Vld s → r = false := fun hv => by cases r with | false => rfl | true => exact absurd (hr.1 rfl) hv
  have ht : Vld s → r = true := hr.2
  replace hf := Lib.hid hf
  replace ht := Lib.hid ht
  clear hr
  by_cases h1 : s.m < 1
  · obtain rfl := hf.out (fun h => by have := h.1; omega)
    clear hf ht
    go_enter Tryd.func34, Tryd.ntmps34
    go_wp2
    go_ret
    exact ⟨rfl, bE⟩
  have d1 : decide (s.m < 1) = false := decide_eq_false h1
  by_cases h2 : 5 < s.m
  · obtain rfl := hf.out (fun h => by have := h.1; omega)
    clear hf ht
    go_enter Tryd.func34, Tryd.ntmps34
    go_wp2
    go_ret
    exact ⟨rfl, bE⟩
  have d2 : decide (5 < s.m) = false := decide_eq_false h2
  by_cases h3 : s.t < 0
  · obtain rfl := hf.out (fun h => by have := h.2.1; omega)
    clear hf ht
    go_enter Tryd.func34, Tryd.ntmps34
    go_wp2
    go_ret
    exact ⟨rfl, bE⟩
  have d3 : decide (s.t < 0) = false := decide_eq_false h3
  by_cases h4 : 1099511627776 < s.t
  · obtain rfl := hf.out (fun h => by have := h.2.1; omega)
    clear hf ht
    go_enter Tryd.func34, Tryd.ntmps34
    go_wp2
    go_ret
    exact ⟨rfl, bE⟩
  have d4 : decide (1099511627776 < s.t) = false := decide_eq_false h4
  go_enter Tryd.func34, Tryd.ntmps34
  go_wp2
  go_loop [3] (fun v3 => ∃ k : Nat, k ≤ 4 ∧ v3 = .int .i64 (k : Int) ∧ (0 < k → 0 ≤ s.a ∧ s.a ≤ 100) ∧ (1 < k → 0 ≤ s.b ∧ s.b ≤ 100) ∧ (2 < k → 0 ≤ s.c ∧ s.c ≤ 100) ∧ (3 < k → 0 ≤ s.d ∧ s.d ≤ 100)) (fun v3 => 4 - (intOf v3).toNat)
  case atStart => exact ⟨0, by omega, rfl, by omega, by omega, by omega, by omega⟩
  case round =>
    obtain ⟨k, hk, rfl, k0, k1, k2, k3⟩ := hrel
    replace k0 := Lib.hid k0
    replace k1 := Lib.hid k1
    replace k2 := Lib.hid k2
    replace k3 := Lib.hid k3
    by_cases hlt : k < 4
    · have hc : k = 0 ∨ k = 1 ∨ k = 2 ∨ k = 3 := by omega
      clear hlt hk
      rcases hc with rfl | rfl | rfl | rfl
      · by_cases x0 : s.a < 0
        · obtain rfl := hf.out (fun h => by have := h.2.2.1; omega)
          clear hf ht
          go_wp2
          go_ret
          exact ⟨rfl, bE⟩
        have e0 : decide (s.a < 0) = false := decide_eq_false x0
        by_cases x1 : 100 < s.a
        · obtain rfl := hf.out (fun h => by have := h.2.2.1; omega)
          clear hf ht
          go_wp2
          go_ret
          exact ⟨rfl, bE⟩
        have e1 : decide (100 < s.a) = false := decide_eq_false x1
        go_wp2
        go_round
        case rel => exact ⟨1, by omega, by go_num, fun _ => ⟨by omega, by omega⟩, fun h => by omega, fun h => by omega, fun h => by omega⟩
        case measure => simp [intOf]
      · by_cases x0 : s.b < 0
        · obtain rfl := hf.out (fun h => by have := h.2.2.2.1; omega)
          clear hf ht
          go_wp2
          go_ret
          exact ⟨rfl, bE⟩
        have e0 : decide (s.b < 0) = false := decide_eq_false x0
        by_cases x1 : 100 < s.b
        · obtain rfl := hf.out (fun h => by have := h.2.2.2.1; omega)
          clear hf ht
          go_wp2
          go_ret
          exact ⟨rfl, bE⟩
        have e1 : decide (100 < s.b) = false := decide_eq_false x1
        go_wp2
        go_round
        case rel => exact ⟨2, by omega, by go_num, fun _ => k0.out (by omega), fun _ => ⟨by omega, by omega⟩, fun h => by omega, fun h => by omega⟩
        case measure => simp [intOf]
      · by_cases x0 : s.c < 0
        · obtain rfl := hf.out (fun h => by have := h.2.2.2.2.1; omega)
          clear hf ht
          go_wp2
          go_ret
          exact ⟨rfl, bE⟩
        have e0 : decide (s.c < 0) = false := decide_eq_false x0
        by_cases x1 : 100 < s.c
        · obtain rfl := hf.out (fun h => by have := h.2.2.2.2.1; omega)
          clear hf ht
          go_wp2
          go_ret
          exact ⟨rfl, bE⟩
        have e1 : decide (100 < s.c) = false := decide_eq_false x1
        go_wp2
        go_round
        case rel => exact ⟨3, by omega, by go_num, fun _ => k0.out (by omega), fun _ => k1.out (by omega), fun _ => ⟨by omega, by omega⟩, fun h => by omega⟩
        case measure => simp [intOf]
      · by_cases x0 : s.d < 0
        · obtain rfl := hf.out (fun h => by have := h.2.2.2.2.2; omega)
          clear hf ht
          go_wp2
          go_ret
          exact ⟨rfl, bE⟩
        have e0 : decide (s.d < 0) = false := decide_eq_false x0
        by_cases x1 : 100 < s.d
        · obtain rfl := hf.out (fun h => by have := h.2.2.2.2.2; omega)
          clear hf ht
          go_wp2
          go_ret
          exact ⟨rfl, bE⟩
        have e1 : decide (100 < s.d) = false := decide_eq_false x1
        go_wp2
        go_round
        case rel => exact ⟨4, by omega, by go_num, fun _ => k0.out (by omega), fun _ => k1.out (by omega), fun _ => k2.out (by omega), fun _ => ⟨by omega, by omega⟩⟩
        case measure => simp [intOf]
    · obtain rfl : k = 4 := by omega
      have hv : Vld s := ⟨by omega, by omega, k0.out (by omega), k1.out (by omega), k2.out (by omega), k3.out (by omega)⟩
      obtain rfl := ht.out hv
      clear hlt hk hf ht hv
      go_wp2
      go_ret
      exact ⟨rfl, bE⟩
abbrev RO (s : Tm) (r : Bool) : Prop := ∀ w, Calls Tryd.prog 30 #[.agg #[.int .i64 s.m, .int .i64 s.t, .int .i64 s.a, .int .i64 s.b, .int .i64 s.c, .int .i64 s.d]] w fun e w' => e = .returned (.bool r) ∧ Below w.heap.size w w'
theorem rover (s : Tm) (r : Bool) (hr : decide (4 ≤ s.m) = r) : RO s r := by
  intro w
  have bE : Below w.heap.size w (w.alloc (.cells #[.int .i64 s.m, .int .i64 s.t, .int .i64 s.a, .int .i64 s.b, .int .i64 s.c, .int .i64 s.d] 27)) := (Below.refl _ _).alloc (Nat.le_refl _) _
  go_enter Tryd.func30, Tryd.ntmps30
  go_wp2
  go_ret
  exact ⟨rfl, bE⟩
abbrev RT (s : Tm) (n : Int) : Prop := ∀ w, Calls Tryd.prog 32 #[.agg #[.int .i64 s.m, .int .i64 s.t, .int .i64 s.a, .int .i64 s.b, .int .i64 s.c, .int .i64 s.d]] w fun e w' => e = .returned (.int .i64 n) ∧ Below w.heap.size w w'
set_option maxRecDepth 100000 in
theorem rtotal (s : Tm) (hs : Scores s) : RT s (tot s) := by
  intro w
  have bE : Below w.heap.size w (w.alloc (.cells #[.int .i64 s.m, .int .i64 s.t, .int .i64 s.a, .int .i64 s.b, .int .i64 s.c, .int .i64 s.d] 27)) := (Below.refl _ _).alloc (Nat.le_refl _) _
  obtain ⟨h1, h2, h3, h4⟩ := hs
  have u1 : IntKind.i64.wrap (s.a + s.b) = s.a + s.b := IntWalk.i64_in _ (by omega)
  have u2 : IntKind.i64.wrap (s.a + s.b + s.c) = s.a + s.b + s.c := IntWalk.i64_in _ (by omega)
  have u3 : IntKind.i64.wrap (s.a + s.b + s.c + s.d) = s.a + s.b + s.c + s.d := IntWalk.i64_in _ (by omega)
  clear h1 h2 h3 h4
  go_enter Tryd.func32, Tryd.ntmps32
  go_wp2
  go_ret
  exact ⟨rfl, bE⟩
abbrev RC (s : Tm) (now E : Int) : Prop := ∀ w, Calls Tryd.prog 29 #[.agg #[.int .i64 s.m, .int .i64 s.t, .int .i64 s.a, .int .i64 s.b, .int .i64 s.c, .int .i64 s.d], .int .i64 now] w fun e w' => e = .returned (.int .i64 E) ∧ Below w.heap.size w w'
set_option maxRecDepth 100000 in
theorem rcheck_at (s : Tm) (now E : Int) (r : Bool) (hr : RV s r) (hc : (r = false ∧ E = 1) ∨ (r = true ∧ now < 0 ∧ E = 1) ∨ (r = true ∧ 0 ≤ now ∧ 1099511627776 < now ∧ E = 1) ∨ (r = true ∧ 0 ≤ now ∧ now ≤ 1099511627776 ∧ now < s.t ∧ E = 20) ∨ (r = true ∧ 0 ≤ now ∧ now ≤ 1099511627776 ∧ s.t ≤ now ∧ E = 0)) : RC s now E := by
  intro w
  have HR := Lib.hid hr
  clear hr
  have q1 := Blk.new w 27 s.cells
  have b1 : Below w.heap.size w (w.alloc (.cells s.cells 27)) := (Below.refl _ _).alloc (Nat.le_refl _) _
  go_enter Tryd.func29, Tryd.ntmps29
  go_wp2_with fail
  change Calls _ _ _ (w.alloc (.cells s.cells 27)) _
  generalize w.alloc (.cells s.cells 27) = W1 at q1 b1 ⊢
  refine (HR.out W1).mono ?_
  rintro e w2 ⟨rfl, hb2⟩
  have q2 := q1.below hb2 q1.lt
  have b2 := below_next b1 hb2
  clear q1 b1 hb2 HR
  obtain ⟨c0, c1, c2, c3, c4, c5⟩ := six q2
  rcases hc with ⟨rfl, rfl⟩ | ⟨rfl, h0, rfl⟩ | ⟨rfl, h0, h1, rfl⟩ | ⟨rfl, h0, h1, h2, rfl⟩ | ⟨rfl, h0, h1, h2, rfl⟩
  · go_wp2
    go_ret
    exact ⟨rfl, b2⟩
  · go_wp2
    go_ret
    exact ⟨rfl, b2⟩
  · have d0 : decide (now < 0) = false := decide_eq_false (by omega)
    go_wp2
    go_ret
    exact ⟨rfl, b2⟩
  · have d0 : decide (now < 0) = false := decide_eq_false (by omega)
    have d1 : decide (1099511627776 < now) = false := decide_eq_false (by omega)
    go_wp2
    go_ret
    exact ⟨rfl, b2⟩
  · have d0 : decide (now < 0) = false := decide_eq_false (by omega)
    have d1 : decide (1099511627776 < now) = false := decide_eq_false (by omega)
    have d2 : decide (now < s.t) = false := decide_eq_false (by omega)
    go_wp2
    go_ret
    exact ⟨rfl, b2⟩
/-- The first error of a passing is that of Pass. -/
theorem rcheck (s : Tm) (now : Int) : RC s now (passR s now).2 := by
  by_cases hv : Vld s
  · have hr := rvalid s true (by simp [hv])
    unfold passR
    by_cases h0 : 0 ≤ now
    · by_cases h1 : now ≤ 1099511627776
      · rw [if_pos ⟨hv, h0, h1⟩]
        by_cases h2 : now < s.t
        · rw [if_pos h2]
          exact rcheck_at s now 20 true hr (.inr (.inr (.inr (.inl ⟨rfl, h0, h1, h2, rfl⟩))))
        · rw [if_neg h2]
          exact rcheck_at s now 0 true hr (.inr (.inr (.inr (.inr ⟨rfl, h0, h1, by omega, rfl⟩))))
      · rw [if_neg (by omega)]
        exact rcheck_at s now 1 true hr (.inr (.inr (.inl ⟨rfl, h0, by omega, rfl⟩)))
    · rw [if_neg (by omega)]
      exact rcheck_at s now 1 true hr (.inr (.inl ⟨rfl, by omega, rfl⟩))
  · have hr := rvalid s false (by simp [hv])
    unfold passR
    rw [if_neg (fun h => hv h.1)]
    exact rcheck_at s now 1 false hr (.inl ⟨rfl, rfl⟩)
end Go.Proofs.YtjainkepgmdkiaaDoor.Va
