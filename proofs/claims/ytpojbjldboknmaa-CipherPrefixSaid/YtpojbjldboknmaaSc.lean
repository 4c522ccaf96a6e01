/-
  The states, continued: what is no key or no nonce; the specification's state.
-/
import Derived.Test.YtpojbjldboknmaaSb
namespace Go.Proofs.Ytpojbjldboknmaa.Sc
open Go.RowKit Go.Proofs.Ytpojbjldboknmaa.B Go.Proofs.Ytpojbjldboknmaa.Ra Go.Proofs.Ytpojbjldboknmaa.Qa Go.Proofs.Ytpojbjldboknmaa.Qb Go.Proofs.Ytpojbjldboknmaa.Ro Go.Proofs.Ytpojbjldboknmaa.Sa Go.Proofs.Ytpojbjldboknmaa.Sb Go.Proofs.YtpojbjldboknmaaW.PrintWords

set_option maxHeartbeats 8000000 in
set_option maxRecDepth 100000 in
theorem state_none (key nonce : ByteArray) (c : Int) (w : World) (h : ¬ ok key nonce) :
    Calls Try.prog 9 #[.string key, .int .u32 c, .string nonce] w fun e w' => e = .returned (.tuple #[.agg (ws noughts), .int .i64 1]) ∧ Below w.heap.size w w' := by
  have hz : Blk (w.alloc (.cells zs 23)) w.heap.size 23 zs := Blk.new w 23 zs
  have h0 : Below w.heap.size w (w.alloc (.cells zs 23)) := (Below.refl _ _).alloc (Nat.le_refl _) _
  have hsz := size23 noughts_fit
  by_cases h1 : key.size = 32
  · have h2 : ¬ nonce.size = 12 := fun e => h ⟨h1, e⟩
    have z1 : ((key.size : Int) != 32) = false := by simp; omega
    have z2 : ((nonce.size : Int) != 12) = true := by simp; omega
    clear h h1 h2
    go_enter Try.func9, Try.ntmps9
    go_wp2_with (first | (refine wpList_load_row rfl 23 (.tmp 6) rfl w.heap.size rfl 23 _ (0, 0) _ hz Try.underlying23 rfl hsz ?_) | (refine wpList_store_row rfl 23 (.tmp 6) (.tmp 18) rfl w.heap.size (ws noughts) rfl rfl 23 _ hz hsz rfl (ws_one _) ?_))
    refine bodyPost_ret (results_row_tmp rfl _ _ w.heap.size 23 (ws noughts) (0, 0) _ rfl (setRow_heap _ _ _ _ _ _ hz) Try.underlying23 rfl hsz) rfl ?_
    exact ⟨rfl, below_setRow h0 (Nat.le_refl _) _⟩
  · have z1 : ((key.size : Int) != 32) = true := by simp; omega
    clear h h1
    go_enter Try.func9, Try.ntmps9
    go_wp2_with (first | (refine wpList_load_row rfl 23 (.tmp 6) rfl w.heap.size rfl 23 _ (0, 0) _ hz Try.underlying23 rfl hsz ?_) | (refine wpList_store_row rfl 23 (.tmp 6) (.tmp 18) rfl w.heap.size (ws noughts) rfl rfl 23 _ hz hsz rfl (ws_one _) ?_))
    refine bodyPost_ret (results_row_tmp rfl _ _ w.heap.size 23 (ws noughts) (0, 0) _ rfl (setRow_heap _ _ _ _ _ _ hz) Try.underlying23 rfl hsz) rfl ?_
    exact ⟨rfl, below_setRow h0 (Nat.le_refl _) _⟩
end Go.Proofs.Ytpojbjldboknmaa.Sc
