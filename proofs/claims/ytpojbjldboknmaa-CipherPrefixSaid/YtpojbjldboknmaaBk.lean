/-
  A block: the walks of the code's and of the specification's.
-/
import Derived.Test.YtpojbjldboknmaaSd
namespace Go.Proofs.Ytpojbjldboknmaa.Bk
open Go.RowKit Go.Proofs.Ytpojbjldboknmaa.B Go.Proofs.Ytpojbjldboknmaa.Ra Go.Proofs.Ytpojbjldboknmaa.Qa Go.Proofs.Ytpojbjldboknmaa.Qb Go.Proofs.Ytpojbjldboknmaa.Ro Go.Proofs.Ytpojbjldboknmaa.Rd Go.Proofs.Ytpojbjldboknmaa.Sa Go.Proofs.Ytpojbjldboknmaa.Sb Go.Proofs.Ytpojbjldboknmaa.Sc Go.Proofs.Ytpojbjldboknmaa.Sd Go.Proofs.YtpojbjldboknmaaW.PrintWords

/-- The four bytes of a word. -/
def four8 (x : Nat) : List Int := [((x % 256 : Nat) : Int), ((x / 256 % 256 : Nat) : Int), ((x / 65536 % 256 : Nat) : Int), ((x / 16777216 % 256 : Nat) : Int)]
/-- The bytes of the first words of the sums. -/
def outk (s t : List Nat) : Nat → List Int
  | 0 => []
  | k + 1 => outk s t k ++ four8 ((gt t k + gt s k) % 4294967296)
theorem outk_length (s t : List Nat) : ∀ k, (outk s t k).length = 4 * k
  | 0 => rfl
  | k + 1 => by rw [outk, List.length_append, outk_length s t k]; simp [four8]; omega
theorem put_f (l : List Int) (x : Nat) (h : l.length < 1000) : PCipherMatchesSpec.cipher_put.f l (x : Int) = some (l ++ four8 x) := by
  unfold PCipherMatchesSpec.cipher_put.f
  rw [Option.bind_some, if_pos (by simp; omega)]
  rfl

set_option maxHeartbeats 8000000 in
set_option maxRecDepth 100000 in
theorem block_none (key nonce : ByteArray) (c : Int) (w : World) (h : ¬ ok key nonce) :
    Calls Try.prog 11 #[.string key, .int .u32 c, .string nonce] w fun e w' => e = .returned (.tuple #[.string ⟨#[]⟩, .int .i64 1]) ∧ Below w.heap.size w w' := by
  have hsz := size23 noughts_fit
  go_enter Try.func11, Try.ntmps11
  go_wp2_with (first | (go_at_call 9; with_reducible refine (state_none key nonce c _ h).mono ?_; rintro e w1 ⟨rfl, hb1⟩) | (refine wpList_store_row rfl 23 (.tmp 8) (.tmp 18) rfl w1.heap.size (ws noughts) rfl rfl 23 zs (Blk.new w1 23 zs) hsz rfl (ws_one _) ?_))
  go_ret2
  exact ⟨rfl, below_setRow (hb1.alloc hb1.size _) hb1.size _⟩
/-- A new row of bytes, empty, with room for 64. -/
theorem make_row (W : World) (base : Nat) (hbase : base ≤ W.heap.size) : ∃ cs, (Instr.makeSlice 38 (.int .i64 0) (.int .i64 64)).run Try.prog W = .ok (.slice (some ⟨W.heap.size, 0, none⟩) 0 64) (W.alloc (.cells cs 5)) ∧ Kd.R (Kd.int .u8) 5 (W.alloc (.cells cs 5)) base (fun k => W.heap.size ≤ k) (.slice (some ⟨W.heap.size, 0, none⟩) 0 64) [] := by
  have hi : (Try.prog.info? 5).map (fun i => (i.zero, i.size, i.bytes)) = some (some (.int .u8 0), 1, 1) := by kernel_rfl
  obtain ⟨i0, h0, hz⟩ := Option.map_eq_some_iff.1 hi
  simp only [Prod.mk.injEq] at hz
  obtain ⟨hz0, hz1, hz2⟩ := hz
  have h := run_make (P := Try.prog) W 38 5 i0 (.int .u8 0) Try.underlying38 h0 hz0 .i64 .i64 0 64 (by omega) (by omega) (by rw [hz2]; omega) (by omega)
  refine ⟨_, h, Kd.R_of_own (enc := Value.int .u8) (h1 := fun _ => rfl) ?_ (fun k hk => ?_)⟩
  · have h2 := World.ownsRow_made (base := base) (e := 5) (size := 1) W (madeCells (Value.int .u8 0).cells (64 * 1)) 64 hbase (by decide) (by rw [size_madeCells])
    rw [hz1]
    exact h2
  · have : W.heap.size = k := by simpa [Value.ownBlock] using hk
    omega
theorem index_ws (T : List Nat) (k : Nat) (hT : Fit T) (hk : k < 16) (W : World) : (Instr.index 23 (.agg (ws T)) (.int .i64 (k : Int))).run Try.prog W = .ok (.int .u32 ((gt T k : Nat) : Int)) W := by
  have hi : (Try.prog.info? 22).map (fun i => (i.zero, i.size, i.bytes)) = some (some (.int .u32 0), 1, 4) := by kernel_rfl
  obtain ⟨i0, h0, hz⟩ := Option.map_eq_some_iff.1 hi
  simp only [Prod.mk.injEq] at hz
  obtain ⟨hz0, hz1, hz2⟩ := hz
  have hu : Try.prog.underlying 22 = some (.int .u32) := by kernel_rfl
  have hg := ws_get (l := T) (i := k) (by rw [hT.1]; exact hk)
  have hn : (0 : Int) ≤ (k : Int) ∧ (k : Int) < ((16 : Nat) : Int) := by omega
  simp [Instr.index, run_underlying Try.underlying23, asIntOf, hn, go_sem, sizeOf, typeInfo, h0, hz1, part, run_underlying hu, hg, isAgg]
  intro h
  omega
theorem setRow_st (w : World) {l : List Nat} (hf : Fit l) : St ((w.alloc (.cells zs 23)).setRow w.heap.size (ws l)) w.heap.size l := ⟨hf, setRow_heap _ _ _ _ _ _ (Blk.new w 23 zs)⟩

set_option maxHeartbeats 8000000 in
set_option maxRecDepth 100000 in
theorem block_walk (key nonce : ByteArray) (c : Nat) (w : World) (hc : c < 4294967296) (h : ok key nonce) :
    Calls Try.prog 11 #[.string key, .int .u32 (c : Int), .string nonce] w fun e w' => e = .returned (.tuple #[.string (strOfNums (outk (st key c nonce) (dn (st key c nonce) 10) 16)), .int .i64 0]) ∧ Below w.heap.size w w' := by
  have hf := st_fit key c nonce hc
  have hsz := size23 hf
  go_enter Try.func11, Try.ntmps11
  go_wp2_with (first
    | (go_at_call 9; with_reducible refine (state_walk key nonce c _ hc h).mono ?_; rintro e w1 ⟨rfl, hb1⟩; have hw1 := setRow_st w1 hf; have hbs := below_setRow (hb1.alloc hb1.size (.cells zs 23)) hb1.size (ws (st key c nonce)))
    | (refine wpList_store_row rfl 23 (.tmp 8) (.tmp 18) rfl w1.heap.size (ws (st key c nonce)) rfl rfl 23 zs (Blk.new w1 23 zs) hsz rfl (ws_one _) ?_; change wpList _ _ _ _ _ ((w1.alloc (.cells zs 23)).setRow w1.heap.size (ws (st key c nonce))); generalize (w1.alloc (.cells zs 23)).setRow w1.heap.size (ws (st key c nonce)) = W1 at hw1 hbs ⊢; obtain ⟨cs, hmk, hR⟩ := make_row W1 w.heap.size hbs.size)
    | (refine wpList_load_row rfl 23 (.tmp 8) rfl w1.heap.size rfl 23 _ (0, 0) _ (hw1.2.alloc _) Try.underlying23 rfl hsz ?_)
    | (go_at_call 14; with_reducible refine (rounds_walk (st key c nonce) _ hf).mono ?_; rintro e w3 ⟨rfl, hb3⟩))
  have hlt1 : w1.heap.size < W1.heap.size := hw1.lt
  have hw3 := (St.below ⟨hw1.1, hw1.2.alloc (.cells cs 5)⟩ hb3 (Nat.lt_trans hlt1 (by show W1.heap.size < (W1.heap.push _).size; simp)) : St w3 w1.heap.size (st key c nonce))
  have hR3 := Kd.R_below hR hb3
  have hB3 : Below w.heap.size w w3 := below_next (hbs.alloc hbs.size (.cells cs 5)) hb3
  have hWs : W1.heap.size ≤ w3.heap.size := Nat.le_trans (by show W1.heap.size ≤ (W1.heap.push _).size; simp) hb3.size
  have hT := dn_fit hf 10
  clear hw1 hbs hR hmk hb3 hb1
  generalize hTe : dn (st key c nonce) 10 = T at hT ⊢
  generalize hSe : st key c nonce = S at hf hsz hw3 hTe ⊢
  have HTe := Lib.hid hTe
  have HSe := Lib.hid hSe
  clear hTe hSe
  go_loopw [10, 26] (fun v10 v26 wr => ∃ k : Nat, k ≤ 16 ∧ v26 = .int .i64 (k : Int) ∧ Kd.R (Kd.int .u8) 5 wr w.heap.size (fun b => W1.heap.size ≤ b) v10 (outk S T k) ∧ St wr w1.heap.size S ∧ Below w.heap.size w wr ∧ W1.heap.size ≤ wr.heap.size) (fun _ v26 _ => 16 - (intOf v26).toNat)
  case atStart => exact ⟨0, by omega, rfl, hR3, hw3, hB3, hWs⟩
  case round =>
    obtain ⟨k, hk, rfl, hR, hw, hb, hWs⟩ := hrel
    by_cases hlt : k < 16
    · have z0 : (k : Int) < 16 := by omega
      have hix := ws_get (l := T) (i := k) (by rw [hT.1]; exact hlt)
      have hin := index_ws T k hT hlt
      have c1 := hw.cell hlt
      have hlo := outk_length S T k
      have hp := put_f (outk S T k) ((gt T k + gt S k) % 4294967296) (by omega)
      obtain ⟨v, hv⟩ : ∃ v, (gt T k + gt S k) % 4294967296 = v := ⟨_, rfl⟩
      have e1 : ((gt T k : Int) + (gt S k : Int)) % 4294967296 = (v : Int) := by omega
      have hN : outk S T (k + 1) = outk S T k ++ four8 v := by rw [outk, hv]
      rw [hv] at hp
      have HN := Lib.hid hN
      clear hlo hN
      go_wp2_with (first
        | (go_at_call 21; with_reducible refine (PCipherMatchesSpec.cipher_put.calls (fun b => W1.heap.size ≤ b) _ (outk S T k) _ (outk S T k ++ four8 v) w wr hb hR hp).mono ?_; rintro e w4 ⟨v4, rfl, hR4, hB4, hK4⟩))
      exact ⟨⟨k + 1, by omega, by go_num, by rw [HN.out]; exact Kd.R_mono hR4 (fun b hb => hb.elim id (fun h => Nat.le_trans hWs h)), ⟨hw.1, (hK4.2 w1.heap.size hw.lt (by omega)).trans hw.2⟩, hB4, Nat.le_trans hWs hK4.1⟩, by simp [intOf]; omega⟩
    · obtain rfl : k = 16 := by omega
      clear hlt hk
      have hcv := own_string (P := Try.prog) Try.underlying38 Try.underlying5 Try.underlying9 (Kd.own_of_R hR)
      go_wp2
      go_ret2
      rw [HSe.out, HTe.out]
      exact ⟨rfl, hb⟩
end Go.Proofs.Ytpojbjldboknmaa.Bk
