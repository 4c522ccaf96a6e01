/-
  What a step does to the mode: plain laws.
-/
import Derived.Test.YtjainkepgmdkiaaDoorTt
namespace Go.Proofs.YtjainkepgmdkiaaDoor.Tv
open Go.RowKit Go.Proofs.YtjainkepgmdkiaaDoor.Ta Go.Proofs.YtjainkepgmdkiaaDoor.Tb Go.Proofs.YtjainkepgmdkiaaDoor.Tc Go.Proofs.YtjainkepgmdkiaaDoor.Te Go.Proofs.YtjainkepgmdkiaaDoor.Tf Go.Proofs.YtjainkepgmdkiaaDoor.Th Go.Proofs.YtjainkepgmdkiaaDoor.Ti Go.Proofs.YtjainkepgmdkiaaDoor.Tt
theorem step_good {s : Tm} {sn lv now : Int} (h : (stepR s sn lv now).2 = 0) : Vld s ∧ s.t ≤ now ∧ now ≤ 1099511627776 ∧ (1 ≤ sn ∧ sn ≤ 4) ∧ (stepR s sn lv now).1 = stp s sn lv now := by
  unfold stepR at h ⊢
  split at h
  · rename_i hv
    rw [if_pos hv]
    split at h
    · cases h
    · rename_i ht
      rw [if_neg ht]
      split at h
      · rename_i hk
        rw [if_pos hk]
        exact ⟨hv.1, by omega, hv.2.2, hk, rfl⟩
      · cases h
  · cases h
theorem pst_mode (s : Tm) (now : Int) : (pst s now).m = s.m ∨ (s.m = 2 ∧ (pst s now).m = 1 ∧ tot (pst s now) = 0) := by
  unfold pst
  split
  · have e : (passedK s ((now - s.t) / 60)).m = if s.m = 2 ∧ tot (late s ((now - s.t) / 60)) = 0 then 1 else s.m := rfl
    have et : tot (passedK s ((now - s.t) / 60)) = tot (late s ((now - s.t) / 60)) := rfl
    rw [e, et]
    split
    · rename_i h; exact .inr ⟨h.1, rfl, h.2⟩
    · exact .inl rfl
  · exact .inl rfl
theorem cst_mode (p : Tm) (sn lv : Int) : (cst p sn lv).m = p.m ∧ (cst p sn lv).t = p.t := by
  unfold cst counted
  split
  · split
    · exact ⟨rfl, rfl⟩
    · exact ⟨rfl, rfl⟩
  · exact ⟨rfl, rfl⟩
theorem goal_at (q : Tm) (sn : Int) : (goal q sn = q.m ∧ tot q < 1 ∧ sn ≠ 1) ∨ (2 ≤ goal q sn ∧ goal q sn ≤ 4) := by
  unfold goal
  split
  · right; omega
  · split
    · right; omega
    · split
      · right; omega
      · left; exact ⟨rfl, by omega, by omega⟩
theorem more_at (a b : Int) : a ≤ more a b ∧ b ≤ more a b ∧ (more a b = a ∨ more a b = b) := by
  unfold more
  split
  · exact ⟨by omega, by omega, .inr rfl⟩
  · exact ⟨by omega, by omega, .inl rfl⟩
theorem est_at (q : Tm) (sn lv : Int) (hm : 1 ≤ q.m ∧ q.m ≤ 5) : q.m ≤ (est q sn lv).m ∧ (1 ≤ (est q sn lv).m ∧ (est q sn lv).m ≤ 5) ∧ (est q sn lv).t = q.t ∧ (est q sn lv).a = q.a ∧ (est q sn lv).b = q.b ∧ (est q sn lv).c = q.c ∧ (est q sn lv).d = q.d := by
  unfold est escalated
  split
  · split
    · have h1 := more_at q.m (goal q sn)
      have h2 := goal_at q sn
      refine ⟨h1.1, ⟨?_, ?_⟩, rfl, rfl, rfl, rfl, rfl⟩
      · show 1 ≤ more q.m (goal q sn); omega
      · show more q.m (goal q sn) ≤ 5; omega
    · exact ⟨Int.le_refl _, hm, rfl, rfl, rfl, rfl, rfl⟩
  · exact ⟨Int.le_refl _, hm, rfl, rfl, rfl, rfl, rfl⟩
theorem tot_est (q : Tm) (sn lv : Int) (hm : 1 ≤ q.m ∧ q.m ≤ 5) : tot (est q sn lv) = tot q := by
  obtain ⟨_, _, _, ha, hb, hc, hd⟩ := est_at q sn lv hm
  unfold tot
  rw [ha, hb, hc, hd]
theorem scores_est {q : Tm} (h : Scores q) (sn lv : Int) (hm : 1 ≤ q.m ∧ q.m ≤ 5) : Scores (est q sn lv) := by
  obtain ⟨_, _, _, ha, hb, hc, hd⟩ := est_at q sn lv hm
  unfold Scores
  rw [ha, hb, hc, hd]
  exact h
theorem up_pos {x k : Int} (hx : 0 ≤ x) (hk : 1 ≤ k) (hk3 : k ≤ 3) : 1 ≤ up x k := by unfold up; split <;> omega
theorem up_nought {x : Int} (hx : 0 ≤ x) (h : x ≤ 100) : up x 0 = x := by unfold up; split <;> omega
/-- An alarm of another sensor than the mesh counts. -/
theorem tot_bump {p : Tm} (h : Scores p) (sn : Int) (h1 : 1 ≤ sn ∧ sn ≤ 4) (hn : sn ≠ 1) : 1 ≤ tot (bump p sn) := by
  obtain ⟨⟨a0, _⟩, ⟨b0, _⟩, ⟨c0, _⟩, ⟨d0, _⟩⟩ := h
  have hc : sn = 2 ∨ sn = 3 ∨ sn = 4 := by omega
  rcases hc with rfl | rfl | rfl
  · have := up_pos b0 (k := 3) (by omega) (by omega)
    show 1 ≤ p.a + up p.b 3 + p.c + p.d
    omega
  · have := up_pos c0 (k := 1) (by omega) (by omega)
    show 1 ≤ p.a + p.b + up p.c 1 + p.d
    omega
  · have := up_pos d0 (k := 1) (by omega) (by omega)
    show 1 ≤ p.a + p.b + p.c + up p.d 1
    omega
theorem stp_calm {s : Tm} {sn lv now : Int} (hv : Vld s) (ht : s.t ≤ now) (hM : now ≤ 1099511627776) (hk : 1 ≤ sn ∧ sn ≤ 4) :
    Vld (stp s sn lv now) ∧ (s.m ≤ (stp s sn lv now).m ∨ (s.m = 2 ∧ (stp s sn lv now).m = 1 ∧ tot (stp s sn lv now) = 0)) := by
  obtain ⟨vp, _⟩ := pst_valid hv ht hM
  have mp := pst_mode s now
  unfold stp
  generalize pst s now = p at vp mp ⊢
  obtain ⟨cm, ct⟩ := cst_mode p sn lv
  have cs := cst_scores vp.2.2 sn lv
  have hq : 1 ≤ (cst p sn lv).m ∧ (cst p sn lv).m ≤ 5 := by rw [cm]; exact vp.1
  have he := est_at (cst p sn lv) sn lv hq
  have hs := scores_est cs sn lv hq
  have hT := tot_est (cst p sn lv) sn lv hq
  refine ⟨⟨he.2.1, by rw [he.2.2.1, ct]; exact vp.2.1, hs⟩, ?_⟩
  rcases mp with mp | ⟨m2, m1, t0⟩
  · left
    rw [← mp, ← cm]
    exact he.1
  · cases ha : alarm sn lv
    · right
      have e1 : cst p sn lv = p := by unfold cst counted; rw [ha]; simp
      have e2 : est p sn lv = p := by unfold est escalated; rw [ha]; simp
      rw [e1, e2]
      exact ⟨m2, m1, t0⟩
    · left
      have e1 : cst p sn lv = bump p sn := by unfold cst counted; rw [ha, if_pos (by omega), if_pos rfl]
      rw [e1]
      have em : (bump p sn).m = p.m := rfl
      have e2 : (est (bump p sn) sn lv).m = more (bump p sn).m (goal (bump p sn) sn) := by unfold est escalated; rw [ha, if_pos (by omega), if_pos rfl]
      rw [e2]
      have h1 := more_at (bump p sn).m (goal (bump p sn) sn)
      have h2 := goal_at (bump p sn) sn
      rcases h2 with ⟨_, hlt, hn⟩ | h2
      · have := tot_bump vp.2.2 sn hk hn
        omega
      · omega
theorem pass_calm {s : Tm} {now : Int} (h : (passR s now).2 = 0) : Vld (passR s now).1 ∧ ((passR s now).1.m = s.m ∨ (s.m = 2 ∧ (passR s now).1.m = 1 ∧ tot (passR s now).1 = 0)) := by
  obtain ⟨hv, _, hM, ht, he⟩ := pass_good h
  rw [he]
  exact ⟨(pst_valid hv ht hM).1, pst_mode s now⟩
theorem unl_calm {s : Tm} {now : Int} (h : (unlR s now).2 = 0) : s.m = 3 ∧ (unlR s now).1.m = 1 ∧ tot (unlR s now).1 = 0 ∧ Scores (unlR s now).1 := by
  unfold unlR at h ⊢
  by_cases hE : (passR s now).2 = 0
  · have hm := pass_calm hE
    have hs := pass_scores hE
    rw [if_neg (by simp [hE])] at h ⊢
    by_cases h4 : 4 ≤ (passR s now).1.m
    · rw [if_pos h4] at h; cases h
    · rw [if_neg h4] at h ⊢
      by_cases h3 : (passR s now).1.m = 3
      · rw [if_neg (by simp [h3])] at h ⊢
        by_cases ht : tot (passR s now).1 = 0
        · rw [if_neg (by simp [ht])]
          exact ⟨by omega, rfl, ht, hs⟩
        · rw [if_pos ht] at h; cases h
      · rw [if_pos h3] at h; cases h
  · rw [if_pos hE] at h
    exact absurd h hE
end Go.Proofs.YtjainkepgmdkiaaDoor.Tv
