/-
  A block of the specification: the walks.
-/
import Derived.Test.YtpojbjldboknmaaBk
namespace Go.Proofs.Ytpojbjldboknmaa.Bl
open Go.RowKit Go.Proofs.Ytpojbjldboknmaa.B Go.Proofs.Ytpojbjldboknmaa.Ra Go.Proofs.Ytpojbjldboknmaa.Qa Go.Proofs.Ytpojbjldboknmaa.Qb Go.Proofs.Ytpojbjldboknmaa.Ro Go.Proofs.Ytpojbjldboknmaa.Rd Go.Proofs.Ytpojbjldboknmaa.Sa Go.Proofs.Ytpojbjldboknmaa.Sb Go.Proofs.Ytpojbjldboknmaa.Sc Go.Proofs.Ytpojbjldboknmaa.Sd Go.Proofs.Ytpojbjldboknmaa.Bk Go.Proofs.YtpojbjldboknmaaW.PrintWords

set_option maxHeartbeats 8000000 in
set_option maxRecDepth 100000 in
theorem ref_block_none (key nonce : ByteArray) (c : Int) (w : World) (h : ¬ ok key nonce) :
    Calls Try.prog 12 #[.string key, .int .u32 c, .string nonce] w fun e w' => e = .returned (.tuple #[.string ⟨#[]⟩, .int .i64 1]) ∧ Below w.heap.size w w' := by
  have hsz := size23 noughts_fit
  go_enter Try.func12, Try.ntmps12
  go_wp2_with (first | (go_at_call 10; with_reducible refine (ref_state_none key nonce c _ h).mono ?_; rintro e w1 ⟨rfl, hb1⟩) | ((with_reducible refine gate_store (t := 23) (p := 8) (v := .tmp 19) rfl ?_); refine wpList_store_row rfl 23 (.tmp 8) (.tmp 19) rfl w1.heap.size (ws noughts) rfl rfl 23 zs (Blk.new w1 23 zs) hsz rfl (ws_one _) ?_))
  go_ret2
  exact ⟨rfl, below_setRow (hb1.alloc hb1.size _) hb1.size _⟩

/-- A new slice of a word's four bytes. -/
theorem four_R (w : World) (v : Nat) : Kd.R (Kd.int .u8) 5 (w.alloc (.cells #[.int .u8 ((v : Int) % 256), .int .u8 ((v : Int) / 256 % 256), .int .u8 ((v : Int) / 65536 % 256), .int .u8 ((v : Int) / 16777216 % 256)] 5)) w.heap.size (fun _ => True) (.slice (some ⟨w.heap.size, 0, none⟩) 4 4) (four8 v) := by
  refine Kd.R_of_own (enc := Value.int .u8) (h1 := fun _ => rfl) ?_ (fun _ _ => trivial)
  exact World.ownsRow_lit (base := w.heap.size) (e := 5) (size := 1) w #[.int .u8 ((v : Int) % 256), .int .u8 ((v : Int) / 256 % 256), .int .u8 ((v : Int) / 65536 % 256), .int .u8 ((v : Int) / 16777216 % 256)] 4 (Nat.le_refl _) (by decide) (by simp)

theorem four_R2 (w : World) (v : Nat) (hv : v < 4294967296) : Kd.R (Kd.int .u8) 5 (w.alloc (.cells #[.int .u8 ((v : Int) % 256), .int .u8 ((v : Int) / 256 % 256), .int .u8 ((v : Int) / 65536 % 256), .int .u8 ((v : Int) / 16777216)] 5)) w.heap.size (fun _ => True) (.slice (some ⟨w.heap.size, 0, none⟩) 4 4) (four8 v) := by
  have h := four_R w v
  rwa [show (v : Int) / 16777216 % 256 = (v : Int) / 16777216 by omega] at h
theorem St_grown {W w5 : World} {g : Nat} {L : List Nat} {row : Option Nat} (h : St W g L) (hg : W.grownBy w5 row) (hne : some g ≠ row) : St w5 g L := ⟨h.1, (hg.block g h.lt hne).trans h.2⟩
theorem zs_fit {l : List Nat} (h : Fit l) : zs.size = (ws l).size := by rw [ws_size, h.1]; rfl
set_option maxHeartbeats 8000000 in
set_option maxRecDepth 100000 in
theorem ref_block_walk (key nonce : ByteArray) (c : Nat) (w : World) (hc : c < 4294967296) (h : ok key nonce) :
    Calls Try.prog 12 #[.string key, .int .u32 (c : Int), .string nonce] w fun e w' => e = .returned (.tuple #[.string (strOfNums (outk (st key c nonce) (dn (st key c nonce) 10) 16)), .int .i64 0]) ∧ Below w.heap.size w w' := by
  have hf := st_fit key c nonce hc
  have hT := dn_fit hf 10
  have hS := fun w => ref_state_walk key nonce c w hc h
  have hR := fun w => ref_rounds_walk (st key c nonce) w hf
  generalize dn (st key c nonce) 10 = T at hT hR ⊢
  generalize st key c nonce = S at hf hS hR ⊢
  have HS := Lib.hid hS
  have HR := Lib.hid hR
  clear hS hR h hc
  have hsz := size23 hf
  have hszT := size23 hT
  go_enter Try.func12, Try.ntmps12
  go_wp2_with fail
  go_at_call 10
  with_reducible refine (HS.out _).mono ?_
  rintro e w1 ⟨rfl, hb1⟩
  have hw1 := setRow_st w1 hf
  have hbs := below_setRow (hb1.alloc hb1.size (.cells zs 23)) hb1.size (ws S)
  go_wp2_with (first
    | ((with_reducible refine gate_store (t := 23) (p := 8) (v := .tmp 19) rfl ?_); refine wpList_store_row rfl 23 (.tmp 8) (.tmp 19) rfl w1.heap.size (ws S) rfl rfl 23 zs (Blk.new w1 23 zs) hsz (zs_fit hf) (ws_one _) ?_; change wpList _ _ _ _ _ ((w1.alloc (.cells zs 23)).setRow w1.heap.size (ws S)); generalize (w1.alloc (.cells zs 23)).setRow w1.heap.size (ws S) = W1 at hw1 hbs ⊢)
    | ((with_reducible refine gate_dst (N := 24) rfl ?_); refine wpList_load_row rfl 23 (.tmp 8) rfl w1.heap.size rfl 23 _ (0, 0) _ hw1.2 Try.underlying23 rfl hsz ?_))
  go_at_call 15
  with_reducible refine (HR.out _).mono ?_
  rintro e w3 ⟨rfl, hb3⟩
  have hw3 := hw1.below hb3 hw1.lt
  have hB3 := below_next hbs hb3
  have hx1 : St ((w3.alloc (.cells zs 23)).setRow w3.heap.size (ws T)) w3.heap.size T := setRow_st w3 hT
  have hx2 : St ((w3.alloc (.cells zs 23)).setRow w3.heap.size (ws T)) w1.heap.size S := ⟨hf, (setRow_other _ _ _ _ (by have := hw3.lt; omega)).trans (hw3.2.alloc _)⟩
  have hx3 := below_setRow (hB3.alloc hB3.size (.cells zs 23)) hB3.size (ws T)
  have hx5 := hw3.lt
  go_wp2_with (first
    | ((with_reducible refine gate_store (t := 23) (p := 10) (v := .tmp 25) rfl ?_); refine wpList_store_row rfl 23 (.tmp 10) (.tmp 25) rfl w3.heap.size (ws T) rfl rfl 23 zs (Blk.new w3 23 zs) hszT (zs_fit hT) (ws_one _) ?_; change wpList _ _ _ _ _ ((w3.alloc (.cells zs 23)).setRow w3.heap.size (ws T)); generalize (w3.alloc (.cells zs 23)).setRow w3.heap.size (ws T) = W3 at hx1 hx2 hx3 ⊢))
  clear hszT hw1 hbs hb3 hw3 hB3 hb1
  have hx4 := hx1.lt
  go_loopw [11, 12] (fun v11 v12 wr => ∃ k : Nat, k ≤ 16 ∧ v12 = .int .i64 (k : Int) ∧ Kd.R (Kd.int .u8) 5 wr w.heap.size (fun b => W3.heap.size ≤ b) v11 (outk S T k) ∧ St wr w1.heap.size S ∧ St wr w3.heap.size T ∧ Below w.heap.size w wr ∧ W3.heap.size ≤ wr.heap.size) (fun _ v12 _ => 16 - (intOf v12).toNat)
  case atStart => exact ⟨0, by omega, rfl, Kd.R_nil _ _ _ _ _, hx2, hx1, hx3, Nat.le_refl _⟩
  case round =>
    obtain ⟨k, hk, rfl, hR, hw, hwT, hb, hWs⟩ := hrel
    obtain ⟨A, ca, rfl⟩ := Kd.R_slice hR
    by_cases hlt : k < 16
    · have z0 : (k : Int) < 16 := by omega
      have c1 := hw.cell hlt
      have c2 := hwT.cell hlt
      obtain ⟨v, hv⟩ : ∃ v, (gt T k + gt S k) % 4294967296 = v := ⟨_, rfl⟩
      have e1 : ((gt S k : Int) + (gt T k : Int)) % 4294967296 = (v : Int) := by omega
      have hN : outk S T (k + 1) = outk S T k ++ four8 v := by rw [outk, hv]
      have hvl : v < 4294967296 := by omega
      have HN := Lib.hid hN
      have HL := Lib.hid (outk_length S T k)
      clear hN
      go_wp2
      go_quiet (fail)
      go_wp2_with (first
        | ((with_reducible refine gate_builtin (b := .append) (xs := #[.tmp 37, .tmp 49]) rfl ?_); at_builtin; (refine Kd.R_append_rows (Kd.int .u8) (w0 := w) w.heap.size rfl (.tmp 37) (.tmp 49) 38 5 (.int .u8 0) 1 rfl Try.underlying38 PCipherMatchesSpec.info5 rfl (by decide) (by omega) _ (outk S T k) (four8 v) _ _ _ (fun b => W3.heap.size ≤ b) (fun _ => False) rfl rfl ?aO ?aR (fun _ _ h => h) (fun _ h => h.elim) ?aF ?aB ?aS ?aL ?_; (case aO => exact Kd.R_alloc (Kd.R_drewN hR _) _); (case aR => exact (Kd.R_reads' (four_R2 _ v hvl)).2.2); (case aF => exact fun b hb' => Nat.le_trans hWs (Nat.le_trans (by show wr.heap.size ≤ (wr.heap.push _).size; simp) hb')); (case aB => exact (below_drewN hb _).alloc hb.size _); (case aS => exact Nat.le_trans hb.size (by show wr.heap.size ≤ (wr.heap.push _).size; simp)); (case aL => have := HL.out; omega); intro v1 w5 hR5 hB5 hg5 hat5)))
      exact ⟨⟨k + 1, by omega, by go_num, by rw [HN.out]; exact hR5, St_grown ⟨hw.1, (hw.2.drewN _).alloc _⟩ hg5 (fun e => by have := hR.1 _ e.symm; omega), St_grown ⟨hwT.1, (hwT.2.drewN _).alloc _⟩ hg5 (fun e => by have := hR.1 _ e.symm; omega), hB5, Nat.le_trans hWs (Nat.le_trans (by show wr.heap.size ≤ (wr.heap.push _).size; simp) hg5.size)⟩, by simp [intOf]; omega⟩
    · obtain rfl : k = 16 := by omega
      clear hlt hk
      have hcv := own_string (P := Try.prog) Try.underlying38 Try.underlying5 Try.underlying9 (Kd.own_of_R hR)
      go_wp2
      go_ret2
      exact ⟨rfl, hb⟩
end Go.Proofs.Ytpojbjldboknmaa.Bl
