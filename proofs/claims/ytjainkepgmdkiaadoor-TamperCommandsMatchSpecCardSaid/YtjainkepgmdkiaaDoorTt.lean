/-
  A state is equal to itself; time adds up: plain laws.
-/
import Derived.Test.YtjainkepgmdkiaaDoorTo
import Derived.Test.YtjainkepgmdkiaaDoorTj
namespace Go.Proofs.YtjainkepgmdkiaaDoor.Tt
open Go.RowKit Go.Proofs.YtjainkepgmdkiaaDoor.B Go.Proofs.YtjainkepgmdkiaaDoor.E Go.Proofs.YtjainkepgmdkiaaDoor.Ta Go.Proofs.YtjainkepgmdkiaaDoor.Tb Go.Proofs.YtjainkepgmdkiaaDoor.Te Go.Proofs.YtjainkepgmdkiaaDoor.Tf Go.Proofs.YtjainkepgmdkiaaDoor.Tg Go.Proofs.YtjainkepgmdkiaaDoor.Th Go.Proofs.YtjainkepgmdkiaaDoor.Ti Go.Proofs.YtjainkepgmdkiaaDoor.To
theorem hold27 : Tryd.prog.stoodInHeld 27 = false := by kernel_rfl
theorem info3 : ∃ i, Tryd.prog.info? 3 = some i := by
  have hi : (Tryd.prog.info? 3).map (fun i => (i.zero, i.size, i.bytes)) = some (some (.int .i64 0), 1, 8) := by kernel_rfl
  obtain ⟨i0, h0, _⟩ := Option.map_eq_some_iff.1 hi
  exact ⟨i0, h0⟩
theorem info25 : ∃ i, Tryd.prog.info? 25 = some i ∧ i.size = 4 := by
  have hi : (Tryd.prog.info? 25).map (fun i => i.size) = some 4 := by kernel_rfl
  obtain ⟨i0, h0, h1⟩ := Option.map_eq_some_iff.1 hi
  exact ⟨i0, h0, h1⟩
theorem fields3 : ∃ f0 f1 f2 : Field, (Tryd.prog.fieldsOf 27).toList = [f0, f1, f2] ∧ tell f0 = ("Mode", 3, 0) ∧ tell f1 = ("Time", 3, 1) ∧ tell f2 = ("Scores", 25, 2) := by
  have h := look27
  generalize (Tryd.prog.fieldsOf 27).toList = l at h ⊢
  have hl : l.length = 3 := by simpa using congrArg List.length h
  match l, hl, h with
  | [f0, f1, f2], _, h =>
    simp only [List.map_cons, List.map_nil, List.cons.injEq, and_true] at h
    exact ⟨f0, f1, f2, rfl, h.1, h.2.1, h.2.2⟩
theorem same_tm (s : Tm) (w : World) : (Op.equalIn 10000 27 (.agg s.cells) (.agg s.cells)).run Tryd.prog w = .ok true w := by
  obtain ⟨f0, f1, f2, hf, t0, t1, t2⟩ := fields3
  simp only [tell, Prod.mk.injEq] at t0 t1 t2
  obtain ⟨i3, hi3⟩ := info3
  obtain ⟨i25, hi25, hs25⟩ := info25
  have hc : s.cells = ints .i64 [s.m, s.t, s.a, s.b, s.c, s.d] := rfl
  have p0 : (part 3 s.cells 0).run Tryd.prog w = .ok (.int .i64 s.m) w := by rw [hc]; exact part_int u3 _ 0 (by simp)
  have p1 : (part 3 s.cells 1).run Tryd.prog w = .ok (.int .i64 s.t) w := by rw [hc]; exact part_int u3 _ 1 (by simp)
  have p2 : (part 25 s.cells 2).run Tryd.prog w = .ok (.agg (ints .i64 [s.a, s.b, s.c, s.d])) w := by
    simp [part, isAgg, run_underlying u25, sizeOf, typeInfo, hi25, hs25, Tm.cells, ints]
  have q2 : (Op.equalIn 9999 25 (.agg (ints .i64 [s.a, s.b, s.c, s.d])) (.agg (ints .i64 [s.a, s.b, s.c, s.d]))).run Tryd.prog w = .ok true w := by
    rw [equalIn_ints 9997 u25 hi3 k3 u3 [s.a, s.b, s.c, s.d] [s.a, s.b, s.c, s.d] rfl rfl]
    simp
  rw [run_equalIn_struct w 9999 27 _ _ u27 hold27, hf]
  simp only [Op.eqFields, t0.1, t0.2.1, t0.2.2, t1.1, t1.2.1, t1.2.2, t2.1, t2.2.1, t2.2.2]
  simp [p0, p1, p2, q2, run_equalIn_int w 9998 3 .i64 .i64 _ _ u3]
theorem eql_tm (s : Tm) (w : World) : (binOp .eql 27 (.agg s.cells) (.agg s.cells)).run Tryd.prog w = .ok (.bool true) w := by
  rw [run_eql_struct, same_tm]; rfl
theorem neq_tm (s : Tm) (w : World) : (binOp .neq 27 (.agg s.cells) (.agg s.cells)).run Tryd.prog w = .ok (.bool false) w := by
  rw [run_neq_struct, same_tm]; rfl
theorem guard27 : Tryd.prog.eqGuardType Tryd.prog.depth 27 = false := by kernel_rfl

/-! ### Time adds up -/
theorem low_low (x K L : Int) (hL : 0 ≤ L) : low (low x K) L = low x (K + L) := by unfold low; repeat' split <;> omega
theorem tot_zero {s : Tm} (h : Scores s) : tot s = 0 ↔ s.a = 0 ∧ s.b = 0 ∧ s.c = 0 ∧ s.d = 0 := by
  obtain ⟨⟨h0, _⟩, ⟨h1, _⟩, ⟨h2, _⟩, ⟨h3, _⟩⟩ := h
  unfold tot
  omega
theorem late_late (s : Tm) (K L : Int) (hL : 0 ≤ L) : late (late s K) L = late s (K + L) := by
  have e2 : s.t + 60 * K + 60 * L = s.t + 60 * (K + L) := by omega
  unfold late
  simp only [low_low _ _ _ hL, e2]
/-- Behind more time the total is no greater. -/
theorem tot_late {s : Tm} (h : Scores s) {K L : Int} (hK : 0 ≤ K) (hL : 0 ≤ L) (h0 : tot (late s K) = 0) : tot (late s (K + L)) = 0 := by
  rw [← late_late s K L hL]
  have h1 := (tot_zero (late_scores h hK)).1 h0
  rw [tot_zero (late_scores (late_scores h hK) hL)]
  obtain ⟨a, b, c, d⟩ := h1
  refine ⟨?_, ?_, ?_, ?_⟩
  · show low (late s K).a L = 0; rw [a]; unfold low; split <;> omega
  · show low (late s K).b L = 0; rw [b]; unfold low; split <;> omega
  · show low (late s K).c L = 0; rw [c]; unfold low; split <;> omega
  · show low (late s K).d L = 0; rw [d]; unfold low; split <;> omega
theorem passedK_twice {s : Tm} (h : Scores s) (K L : Int) (hK : 0 ≤ K) (hL : 0 ≤ L) : passedK (passedK s K) L = passedK s (K + L) := by
  have ht : tot (late (passedK s K) L) = tot (late s (K + L)) := by rw [← late_late s K L hL]; rfl
  have e1 : (passedK (passedK s K) L).m = (passedK s (K + L)).m := by
    show (if (passedK s K).m = 2 ∧ tot (late (passedK s K) L) = 0 then 1 else (passedK s K).m) = (if s.m = 2 ∧ tot (late s (K + L)) = 0 then 1 else s.m)
    rw [ht]
    have hm : (passedK s K).m = if s.m = 2 ∧ tot (late s K) = 0 then 1 else s.m := rfl
    have hz := tot_late h hK hL
    rw [hm]
    by_cases c1 : s.m = 2 ∧ tot (late s K) = 0
    · have c2 := hz c1.2
      rw [if_pos c1, if_neg (by omega), if_pos ⟨c1.1, c2⟩]
    · rw [if_neg c1]
  have e2 : s.t + 60 * K + 60 * L = s.t + 60 * (K + L) := by omega
  unfold passedK at e1 ⊢
  simp only [] at e1
  simp only [low_low _ _ _ hL, e2, Tm.mk.injEq, and_true]
  exact e1
/-- Passing until a time and from there until a later one. -/
theorem pst_twice {s : Tm} (h : Scores s) (now later : Int) (h1 : s.t ≤ now) (h2 : now ≤ later) : pst (pst s now) later = pst s later := by
  unfold pst
  by_cases hm : s.m < 4
  · rw [if_pos hm, if_pos hm]
    have hm2 : (passedK s ((now - s.t) / 60)).m < 4 := by
      show (if s.m = 2 ∧ tot (late s ((now - s.t) / 60)) = 0 then 1 else s.m) < 4
      split <;> omega
    rw [if_pos hm2]
    have ht : (passedK s ((now - s.t) / 60)).t = s.t + 60 * ((now - s.t) / 60) := rfl
    rw [ht, passedK_twice h _ _ (by omega) (by omega)]
    congr 1
    omega
  · simp only [if_neg hm]
theorem pst_valid {s : Tm} (h : Vld s) {now : Int} (h1 : s.t ≤ now) (h2 : now ≤ 1099511627776) : Vld (pst s now) ∧ (pst s now).t ≤ now := by
  have hs := pst_scores h.2.2 h1
  unfold pst at hs ⊢
  obtain ⟨hm, ht, _⟩ := h
  by_cases h4 : s.m < 4
  · rw [if_pos h4] at hs ⊢
    have e1 : (passedK s ((now - s.t) / 60)).t = s.t + 60 * ((now - s.t) / 60) := rfl
    have e2 : (passedK s ((now - s.t) / 60)).m = if s.m = 2 ∧ tot (late s ((now - s.t) / 60)) = 0 then 1 else s.m := rfl
    refine ⟨⟨?_, ?_, hs⟩, ?_⟩
    · rw [e2]; split <;> omega
    · rw [e1]; omega
    · rw [e1]; omega
  · rw [if_neg h4] at hs ⊢
    exact ⟨⟨hm, ht, hs⟩, h1⟩
theorem pass_ok {s : Tm} {now : Int} (h : Vld s) (h1 : s.t ≤ now) (h2 : now ≤ 1099511627776) : passR s now = (pst s now, 0) := by
  unfold passR
  rw [if_pos ⟨h, by have := h.2.1; omega, h2⟩, if_neg (by omega)]
end Go.Proofs.YtjainkepgmdkiaaDoor.Tt
