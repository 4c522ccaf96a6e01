/-
  Xor of the specification: the walk.
-/
import Derived.Test.YtpojbjldboknmaaXa
import Derived.Deep.RegionLaw
namespace Go.Proofs.Ytpojbjldboknmaa.Xb
open Go.RowKit Go.Proofs.Ytpojbjldboknmaa.B Go.Proofs.Ytpojbjldboknmaa.Ra Go.Proofs.Ytpojbjldboknmaa.Qa Go.Proofs.Ytpojbjldboknmaa.Qb Go.Proofs.Ytpojbjldboknmaa.Ro Go.Proofs.Ytpojbjldboknmaa.Sa Go.Proofs.Ytpojbjldboknmaa.Sb Go.Proofs.Ytpojbjldboknmaa.Sc Go.Proofs.Ytpojbjldboknmaa.Sd Go.Proofs.Ytpojbjldboknmaa.Bk Go.Proofs.Ytpojbjldboknmaa.Bl Go.Proofs.Ytpojbjldboknmaa.Xp Go.Proofs.Ytpojbjldboknmaa.Xa Go.Proofs.YtpojbjldboknmaaW.PrintWords Go.Proofs.YtpojbjldboknmaaW.PrintMore
attribute [local go_sem] max2_int min2_int max_two min_two

set_option maxHeartbeats 8000000 in
set_option maxRecDepth 100000 in
theorem ref_xor_none (key nonce text : ByteArray) (c : Int) (w : World) (h : ¬ ok key nonce) :
    Calls Try.prog 18 #[.string key, .int .u32 c, .string nonce, .string text] w fun e w' => e = .returned (.tuple #[.string ⟨#[]⟩, .int .i64 1]) ∧ Below w.heap.size w w' := by
  have hsz := size23 noughts_fit
  go_enter Try.func18, Try.ntmps18
  go_wp2_with (first | (go_at_call 10; with_reducible refine (ref_state_none key nonce c _ h).mono ?_; rintro e w1 ⟨rfl, hb1⟩) | ((with_reducible refine gate_store (t := 23) (p := 10) (v := .tmp 22) rfl ?_); refine wpList_store_row rfl 23 (.tmp 10) (.tmp 22) rfl w1.heap.size (ws noughts) rfl rfl 23 zs (Blk.new w1 23 zs) hsz rfl (ws_one _) ?_))
  go_ret2
  exact ⟨rfl, below_setRow (hb1.alloc hb1.size _) hb1.size _⟩
theorem size_alloc (W : World) (o : Obj) : W.heap.size ≤ (W.alloc o).heap.size := by show W.heap.size ≤ (W.heap.push _).size; simp
/-- A new slice of one byte. -/
theorem one_R (w : World) (v : Int) : Kd.R (Kd.int .u8) 5 (w.alloc (.cells #[.int .u8 v] 5)) w.heap.size (fun _ => True) (.slice (some ⟨w.heap.size, 0, none⟩) 1 1) [v] := by
  refine Kd.R_of_own (enc := Value.int .u8) (h1 := fun _ => rfl) ?_ (fun _ _ => trivial)
  exact World.ownsRow_lit (base := w.heap.size) (e := 5) (size := 1) w #[.int .u8 v] 1 (Nat.le_refl _) (by decide) (by simp)
theorem ref_block_blk (key nonce : ByteArray) (c : Nat) (w : World) (hc : c < 4294967296) (h : ok key nonce) :
    Calls Try.prog 12 #[.string key, .int .u32 (c : Int), .string nonce] w fun e w' => e = .returned (.tuple #[.string (blkS key nonce c), .int .i64 0]) ∧ Below w.heap.size w w' := ref_block_walk key nonce c w hc h
/-- What is left of a text behind p bytes. -/
def Tail (text T : ByteArray) (p : Nat) : Prop := p + T.size = text.size ∧ ∀ i, i < T.size → by8 T i = by8 text (p + i)
theorem Tail.cut {text T : ByteArray} {p : Nat} (h : Tail text T p) (m : Nat) (hm : m ≤ T.size) : Tail text (T.extract m T.size) (p + m) := by
  refine ⟨by have := h.1; simp; omega, fun i hi => ?_⟩
  have hi' : m + i < T.size := by simp at hi; omega
  rw [by8_cut _ _ _ _ (Nat.le_refl _) hi', h.2 _ hi', Nat.add_assoc]
theorem ks_in (key nonce : ByteArray) (c j i : Nat) (hi : i < 64) : by8 (blkS key nonce ((c + j) % 4294967296)) i = ks key nonce c (64 * j + i) := by
  unfold ks
  rw [show (64 * j + i) / 64 = j by omega, show (64 * j + i) % 64 = i by omega]
set_option maxHeartbeats 8000000 in
set_option maxRecDepth 100000 in
theorem ref_xor_walk (key nonce text : ByteArray) (c : Nat) (w : World) (hc : c < 4294967296) (h : ok key nonce) (hn : text.size ≤ 140737488351232) :
    Calls Try.prog 18 #[.string key, .int .u32 (c : Int), .string nonce, .string text] w fun e w' => e = .returned (.tuple #[.string (xs key nonce c text), .int .i64 0]) ∧ Below w.heap.size w w' := by
  have hf := st_fit key c nonce hc
  have HS := Lib.hid (fun w => ref_state_walk key nonce c w hc h)
  have HB := Lib.hid (fun (j : Nat) (hj : j < 4294967296) (w : World) => ref_block_blk key nonce j w hj h)
  clear h
  generalize st key c nonce = S at hf HS
  have hsz := size23 hf
  go_enter Try.func18, Try.ntmps18
  go_wp2_with (first | (go_at_call 10; with_reducible refine (HS.out _).mono ?_; rintro e w1 ⟨rfl, hb1⟩; have hbs := below_setRow (hb1.alloc hb1.size (.cells zs 23)) hb1.size (ws S)) | ((with_reducible refine gate_store (t := 23) (p := 10) (v := .tmp 22) rfl ?_); refine wpList_store_row rfl 23 (.tmp 10) (.tmp 22) rfl w1.heap.size (ws S) rfl rfl 23 zs (Blk.new w1 23 zs) hsz (zs_fit hf) (ws_one _) ?_; change wpList _ _ _ _ _ ((w1.alloc (.cells zs 23)).setRow w1.heap.size (ws S)); generalize (w1.alloc (.cells zs 23)).setRow w1.heap.size (ws S) = W1 at hbs ⊢))
  clear hsz HS hf hb1
  go_loopw [1, 3, 12] (fun v1 v3 v12 wr => ∃ (p j : Nat) (T : ByteArray), (p = 64 * j ∨ T.size = 0) ∧ v3 = .string T ∧ v1 = .int .u32 (((c + j) % 4294967296 : Nat) : Int) ∧ Tail text T p ∧ Kd.R (Kd.int .u8) 5 wr w.heap.size (fun _ => True) v12 (xo key nonce c text p) ∧ Below w.heap.size w wr) (fun _ v3 _ _ => match v3 with | .string s => s.size | _ => 0)
  case atStart => exact ⟨0, 0, text, .inl rfl, rfl, by rw [Nat.add_zero, Nat.mod_eq_of_lt hc], ⟨Nat.zero_add _, fun i _ => by rw [Nat.zero_add]⟩, Kd.R_nil _ _ _ _ _, hbs⟩
  case round =>
    clear hbs
    obtain ⟨p, j, T, hpj, rfl, rfl, hT, hR, hb⟩ := hrel
    obtain ⟨A, ca, rfl⟩ := Kd.R_slice hR
    have hTs := hT.1
    by_cases hlt : 0 < T.size
    · have hp : p = 64 * j := by omega
      obtain ⟨m, hm⟩ : ∃ m, min 64 T.size = m := ⟨_, rfl⟩
      have hmin : (if (T.size : Int) < 64 then (T.size : Int) else 64) = (m : Int) := by split <;> omega
      have hm1 : m ≤ 64 := by omega
      have hm2 : m ≤ T.size := by omega
      have hm3 : 0 < m := by omega
      have zt : (0 : Int) < (T.size : Int) := by omega
      have hcl : (c + j) % 4294967296 < 4294967296 := Nat.mod_lt _ (by omega)
      have hcn : ((((c + j) % 4294967296 : Nat) : Int) + 1) % 4294967296 = (((c + (j + 1)) % 4294967296 : Nat) : Int) := by omega
      have hBs := blkS_size key nonce ((c + j) % 4294967296)
      have hks := ks_in key nonce c j
      have HBj := Lib.hid (HB.out _ hcl)
      generalize (c + j) % 4294967296 = q at hcl hcn hBs hks HBj ⊢
      generalize blkS key nonce q = Bq at hBs hks HBj
      generalize hq' : (c + (j + 1)) % 4294967296 = q' at hcn
      have HQ := Lib.hid hq'
      have HK := Lib.hid hks
      have HP := Lib.hid hp
      have HM := Lib.hid hm
      have HT := Lib.hid hT
      have hT1 : T.size ≤ 140737488351232 := by omega
      have HTs := Lib.hid hTs
      clear hp hm hpj hks hT hTs hq'
      go_wp2_with (first | (go_at_call 12; with_reducible refine (HBj.out _).mono ?_; rintro e w3 ⟨rfl, hb3⟩))
      have hR3 := Kd.R_below hR hb3
      have hb4 := below_next hb hb3
      clear hR hb hb3
      go_loopw [12, 16] (fun v12 v16 wx => ∃ i : Nat, i ≤ m ∧ v16 = .int .i64 (i : Int) ∧ Kd.R (Kd.int .u8) 5 wx w.heap.size (fun _ => True) v12 (xo key nonce c text (p + i)) ∧ Below w.heap.size w wx) (fun _ v16 _ => m - (intOf v16).toNat)
      case atStart => exact ⟨0, Nat.zero_le _, rfl, hR3, hb4⟩
      case round =>
        clear hR3 hb4
        obtain ⟨i, hi, rfl, hR, hb⟩ := hrel
        obtain ⟨A2, ca2, rfl⟩ := Kd.R_slice hR
        by_cases hli : i < m
        · have zi : (i : Int) < (m : Int) := by omega
          have hix1 := index_by8 T i (by omega)
          have hix2 := index_by8 Bq i (by rw [hBs]; omega)
          have hx := u8_xor_nat (by8 T i) (by8 Bq i) (by8_lt _ _) (by8_lt _ _)
          have hnx := xo_snoc key nonce c text (p + i)
          unfold xb at hnx
          rw [← HT.out.2 i (by omega), show ks key nonce c (p + i) = by8 Bq i by rw [HK.out i (by omega), HP.out]] at hnx
          have hxl := xor_lt8 _ _ (by8_lt T i) (by8_lt Bq i)
          generalize by8 T i ^^^ by8 Bq i = x at hx hnx hxl
          generalize by8 T i = b1 at hx hix1
          generalize by8 Bq i = b2 at hx hix2
          have HN := Lib.hid hnx
          have HL := Lib.hid (xo_length key nonce c text (p + i))
          clear hnx
          go_wp2
          go_region_law (first | (refine Kd.R_append_rows_step (Kd.int .u8) (w0 := w) w.heap.size (by rfl) (.tmp 45) (.tmp 53) 38 5 (.int .u8 0) 1 rfl Try.underlying38 PCipherMatchesSpec.info5 rfl (by decide) (by omega) _ (xo key nonce c text (p + i)) [(x : Int)] _ _ _ (fun _ => True) (fun _ => False) rfl rfl ?aO ?aR (fun _ _ h => h) (fun _ h => h.elim) (fun _ _ => trivial) ?aB ?aS ?aL ?_; (case aO => (with_reducible repeat (first | apply Kd.R_alloc | apply Kd.R_drewN | apply Kd.R_drew)); exact hR); (case aR => repeat (first | exact (Kd.R_reads' (one_R _ (x : Int))).2.2 | (with_reducible refine Kd.C_drew ?_))); (case aB => repeat (first | (with_reducible first | exact hb | apply below_alloc | apply pw_below_drewN | apply below_drew1) | exact hb)); (case aS => exact Nat.le_trans hb.size (size_alloc wr _)); (case aL => have h1 := HL.out; have h2 := HTs.out; omega); intro v1 w5 hR5 hB5 hg5 hat5))
          all_goals
            go_wp2_with fail
            go_roundw
            case rel => exact ⟨i + 1, by omega, by go_num, by rw [← Nat.add_assoc, HN.out]; exact hR5, hB5⟩
            case measure => simp [intOf]; omega
        · obtain rfl : i = m := by omega
          clear hli hi
          go_wp2
          go_roundw
          case rel => exact ⟨p + i, j + 1, T.extract i T.size, by have h1 := HP.out; have h2 := HM.out; rw [ByteArray.size_extract]; omega, rfl, by rw [HQ.out, hcn], HT.out.cut i hm2, hR, hb⟩
          case measure => simp; omega
    · have h0 : T.size = 0 := by omega
      have hT0 := hT.1
      obtain rfl : p = text.size := by omega
      have hcv := own_string (P := Try.prog) Try.underlying38 Try.underlying5 Try.underlying9 (Kd.own_of_R hR)
      clear hTs hT0 hpj hlt hT
      go_wp2
      go_ret2
      exact ⟨rfl, hb⟩
end Go.Proofs.Ytpojbjldboknmaa.Xb
