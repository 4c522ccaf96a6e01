/-
  What Pass, Step, Unlock, Zeroize and Decommission return: plain words, and the walks.
-/
import Derived.Test.YtjainkepgmdkiaaDoorTh
namespace Go.Proofs.YtjainkepgmdkiaaDoor.Ti
open Go.RowKit Go.Proofs.YtjainkepgmdkiaaDoor.B Go.Proofs.YtjainkepgmdkiaaDoor.Ta Go.Proofs.YtjainkepgmdkiaaDoor.Tb Go.Proofs.YtjainkepgmdkiaaDoor.Tc Go.Proofs.YtjainkepgmdkiaaDoor.Tz Go.Proofs.YtjainkepgmdkiaaDoor.Te Go.Proofs.YtjainkepgmdkiaaDoor.Tf Go.Proofs.YtjainkepgmdkiaaDoor.Tg Go.Proofs.YtjainkepgmdkiaaDoor.Th
attribute [local go_sem] max2_int min2_int max_two min_two

instance (s : Tm) : Decidable (Vld s) := decidable_of_iff _ (okk_all s)
def passR (s : Tm) (now : Int) : Tm × Int := if Vld s ∧ 0 ≤ now ∧ now ≤ 1099511627776 then (if now < s.t then (nil0, 20) else (pst s now, 0)) else (nil0, 1)
def stepR (s : Tm) (sn lv now : Int) : Tm × Int := if Vld s ∧ 0 ≤ now ∧ now ≤ 1099511627776 then (if now < s.t then (nil0, 20) else if 1 ≤ sn ∧ sn ≤ 4 then (stp s sn lv now, 0) else (nil0, 1)) else (nil0, 1)
def unlR (s : Tm) (now : Int) : Tm × Int :=
  if (passR s now).2 ≠ 0 then (nil0, (passR s now).2) else if 4 ≤ (passR s now).1.m then (nil0, 19) else if (passR s now).1.m ≠ 3 then (nil0, 11) else if tot (passR s now).1 ≠ 0 then (nil0, 18) else
  (⟨1, (passR s now).1.t, (passR s now).1.a, (passR s now).1.b, (passR s now).1.c, (passR s now).1.d⟩, 0)
def endR (s : Tm) (k : Int) : Tm × Int := if Vld s then (⟨more s.m k, s.t, s.a, s.b, s.c, s.d⟩, 0) else (nil0, 1)
theorem pass_c (s : Tm) (now : Int) (w : World) (hG : Gl w) : Gives 12 #[.agg s.cells, .int .i64 now] (passR s now).1 (passR s now).2 w := by
  unfold passR
  by_cases hv : Vld s
  · by_cases h0 : 0 ≤ now ∧ now ≤ 1099511627776
    · rw [if_pos ⟨hv, h0⟩]
      by_cases ht : now < s.t
      · rw [if_pos ht]
        exact pass_frame s now w hG _ _ (app_back hv h0.1 h0.2 ht)
      · rw [if_neg ht]
        exact pass_frame s now w hG _ _ (app_pass hv h0.2 (by omega) (by omega) (by omega))
    · rw [if_neg (fun h => h0 h.2)]
      exact pass_frame s now w hG _ _ (app_when hv (by omega))
  · rw [if_neg (fun h => hv h.1)]
    exact pass_frame s now w hG _ _ (app_bad hv)
theorem step_c (s : Tm) (sn lv now : Int) (w : World) (hG : Gl w) : Gives 11 #[.agg s.cells, .agg #[.int .i64 sn, .int .i64 lv], .int .i64 now] (stepR s sn lv now).1 (stepR s sn lv now).2 w := by
  unfold stepR
  by_cases hv : Vld s
  · by_cases h0 : 0 ≤ now ∧ now ≤ 1099511627776
    · rw [if_pos ⟨hv, h0⟩]
      by_cases ht : now < s.t
      · rw [if_pos ht]
        exact step_frame s sn lv now w hG _ _ (app_back hv h0.1 h0.2 ht)
      · rw [if_neg ht]
        by_cases hk : 1 ≤ sn ∧ sn ≤ 4
        · rw [if_pos hk]
          exact step_frame s sn lv now w hG _ _ (app_step hv h0.2 (by omega) hk.1 hk.2)
        · rw [if_neg hk]
          exact step_frame s sn lv now w hG _ _ (app_who hv h0.1 h0.2 (by omega) (by omega))
    · rw [if_neg (fun h => h0 h.2)]
      exact step_frame s sn lv now w hG _ _ (app_when hv (by omega))
  · rw [if_neg (fun h => hv h.1)]
    exact step_frame s sn lv now w hG _ _ (app_bad hv)
theorem pass_good {s : Tm} {now : Int} (h : (passR s now).2 = 0) : Vld s ∧ 0 ≤ now ∧ now ≤ 1099511627776 ∧ s.t ≤ now ∧ (passR s now).1 = pst s now := by
  unfold passR at h ⊢
  split at h
  · rename_i hv
    rw [if_pos hv]
    split at h
    · cases h
    · rename_i ht
      rw [if_neg ht]
      exact ⟨hv.1, hv.2.1, hv.2.2, by omega, rfl⟩
  · cases h
theorem pass_scores {s : Tm} {now : Int} (h : (passR s now).2 = 0) : Scores (passR s now).1 := by
  obtain ⟨hv, _, _, ht, he⟩ := pass_good h
  rw [he]
  exact pst_scores hv.2.2 ht
end Go.Proofs.YtjainkepgmdkiaaDoor.Ti
