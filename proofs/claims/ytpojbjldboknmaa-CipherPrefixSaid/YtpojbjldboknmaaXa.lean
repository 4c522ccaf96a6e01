/-
  Xor of the code: the walk.
-/
import Derived.Test.YtpojbjldboknmaaXp
namespace Go.Proofs.Ytpojbjldboknmaa.Xa
open Go.RowKit Go.Proofs.Ytpojbjldboknmaa.B Go.Proofs.Ytpojbjldboknmaa.Ra Go.Proofs.Ytpojbjldboknmaa.Qa Go.Proofs.Ytpojbjldboknmaa.Qb Go.Proofs.Ytpojbjldboknmaa.Ro Go.Proofs.Ytpojbjldboknmaa.Sa Go.Proofs.Ytpojbjldboknmaa.Sb Go.Proofs.Ytpojbjldboknmaa.Sc Go.Proofs.Ytpojbjldboknmaa.Sd Go.Proofs.Ytpojbjldboknmaa.Bk Go.Proofs.Ytpojbjldboknmaa.Bl Go.Proofs.Ytpojbjldboknmaa.Xp Go.Proofs.YtpojbjldboknmaaW.PrintWords

/-- Block g begins with these bytes; only what stands behind its row is marked. -/
def BR (w : World) (g : Nat) (l : List Int) : Prop := ∃ cs : Array Value, w.heap[g]? = some (.cells cs 5 (cs.size, cs.size + 1)) ∧ l.length ≤ cs.size ∧ ∀ j, j < l.length → cs[j]? = some (.int .u8 (l.getD j 0))
section
variable {w w' : World} {g : Nat} {l : List Int}
theorem BR.lt (h : BR w g l) : g < w.heap.size := by obtain ⟨_, h, _⟩ := h; exact (Array.getElem?_eq_some_iff.1 h).1
theorem BR.cell (h : BR w g l) {j : Nat} (hj : j < l.length) : w.cell? ⟨g, j, none⟩ = some (.int .u8 (l.getD j 0)) := by
  obtain ⟨cs, h, _, hc⟩ := h
  rw [cell_of_row w g j cs 5 _ h]
  exact hc j hj
theorem BR.frozen (h : BR w g l) {j : Nat} (hj : j < l.length) : w.frozen? ⟨g, j, none⟩ = false := by
  obtain ⟨cs, h, hl, _⟩ := h
  simp [World.frozen?, h]
  omega
theorem BR.keep (h : BR w g l) (hk : w'.heap[g]? = w.heap[g]?) : BR w' g l := by
  obtain ⟨cs, h, hl, hc⟩ := h
  exact ⟨cs, hk.trans h, hl, hc⟩
theorem BR.below {B : Nat} (h : BR w g l) (hb : Below B w w') (hg : g < B) : BR w' g l := h.keep (hb.block g hg)
theorem BR.drewN (h : BR w g l) (n : Nat) : BR (w.drewN n) g l := h
theorem BR.put (h : BR w g l) (k : Nat) (v : Int) : BR (w.setCell ⟨g, k, none⟩ (.int .u8 v)) g (l.set k v) := by
  obtain ⟨cs, h, hl, hc⟩ := h
  refine ⟨cs.setIfInBounds k (.int .u8 v), ?_, by simpa using hl, fun j hj => ?_⟩
  · simp [World.setCell, Array.getElem?_modify, h]
  · have hj' : j < l.length := by simpa using hj
    by_cases hjk : k = j
    · subst hjk
      have : k < cs.size := by omega
      simp [List.getD_eq_getElem?_getD, hj', this]
    · rw [Array.getElem?_setIfInBounds_ne hjk, hc j hj']
      simp [List.getD_eq_getElem?_getD, List.getElem?_set_ne hjk]
theorem BR.reads (h : BR w g l) (hl : l.length ≤ 9223372036854775807) : ReadsInt w .u8 (some ⟨g, 0, none⟩) l.length l := by
  refine ⟨rfl, hl, fun _ => ⟨_, rfl, fun j hj => ?_⟩⟩
  rw [show (⟨g, 0, none⟩ : Addr).add j = ⟨g, j, none⟩ by unfold Addr.add; simp; omega]
  exact h.cell hj
end
theorem bytes_BR (w : World) (s : ByteArray) : BR (Lib.bytesWorld w 5 s) w.heap.size (bytesOf s) := by
  refine ⟨_, Lib.bytesWorld_at_new w 5 s, ?_, fun j hj => ?_⟩
  · rw [bytesOf_length]; simp [Lib.bytesCells]
  · have h := Lib.bytesWorld_cell w 5 s j (by rw [bytesOf_length] at hj; exact hj)
    rw [cell_of_row _ _ j _ 5 _ (Lib.bytesWorld_at_new w 5 s)] at h
    rw [h]
    have hj' : j < s.data.size := by rw [bytesOf_length] at hj; exact hj
    have he : s.data[j]? = some (s.data[j]'hj') := Array.getElem?_eq_getElem hj'
    simp [bytesOf, List.getD_eq_getElem?_getD, he]
/-- A byte of a text. -/
theorem index_by8 (s : ByteArray) (i : Nat) (h : i < s.size) (W : World) : (Instr.index 9 (.string s) (.int .i64 (i : Int))).run Try.prog W = .ok (.int .u8 ((by8 s i : Nat) : Int)) W := by
  rw [by8_get s i h]
  have hn : (0 : Int) ≤ (i : Int) ∧ (i : Int) < (s.size : Int) := by omega
  simp [Instr.index, run_underlying Try.underlying9, asIntOf, hn, go_sem, h]
theorem ofInt_u8 (a : Nat) (ha : a < 256) : (BitVec.ofInt 8 (a : Int)).toNat = a := by
  rw [BitVec.ofInt_natCast, BitVec.toNat_ofNat]; exact Nat.mod_eq_of_lt (by omega)
theorem u8_xor_nat (a b : Nat) (ha : a < 256) (hb : b < 256) : Go.bits .xor .u8 (a : Int) (b : Int) = ((a ^^^ b : Nat) : Int) := by
  show IntKind.u8.wrap ((BitVec.ofInt 8 (a : Int) ^^^ BitVec.ofInt 8 (b : Int)).toNat : Int) = _
  rw [BitVec.toNat_xor, ofInt_u8 a ha, ofInt_u8 b hb]
  show ((BitVec.ofInt 8 ((a ^^^ b : Nat) : Int)).toNat : Int) = _
  rw [ofInt_u8 _ (xor_lt8 a b ha hb)]
set_option maxHeartbeats 8000000 in
set_option maxRecDepth 100000 in
theorem xor_none (key nonce text : ByteArray) (c : Int) (w : World) (h : ¬ ok key nonce) :
    Calls Try.prog 17 #[.string key, .int .u32 c, .string nonce, .string text] w fun e w' => e = .returned (.tuple #[.string ⟨#[]⟩, .int .i64 1]) ∧ Below w.heap.size w w' := by
  have hsz := size23 noughts_fit
  go_enter Try.func17, Try.ntmps17
  go_wp2_with (first | (go_at_call 9; with_reducible refine (state_none key nonce c _ h).mono ?_; rintro e w1 ⟨rfl, hb1⟩) | ((with_reducible refine gate_store (t := 23) (p := 10) (v := .tmp 20) rfl ?_); refine wpList_store_row rfl 23 (.tmp 10) (.tmp 20) rfl w1.heap.size (ws noughts) rfl rfl 23 zs (Blk.new w1 23 zs) hsz rfl (ws_one _) ?_))
  go_ret2
  exact ⟨rfl, below_setRow (hb1.alloc hb1.size _) hb1.size _⟩
/-- The block that is in use behind k bytes. -/
def cur (key nonce : ByteArray) (c k : Nat) : ByteArray := if k = 0 then ⟨#[]⟩ else blkS key nonce ((c + (k - 1) / 64) % 4294967296)
/-- The counter behind k bytes. -/
def cnt (c k : Nat) : Nat := (c + (k + 63) / 64) % 4294967296
theorem cnt_lt (c k : Nat) : cnt c k < 4294967296 := Nat.mod_lt _ (by omega)
theorem cnt_at (c k : Nat) (h : k % 64 = 0) : cnt c k = (c + k / 64) % 4294967296 := by unfold cnt; rw [show (k + 63) / 64 = k / 64 by omega]
theorem cnt_next (c k : Nat) (h : k % 64 = 0) : ((cnt c k : Nat) : Int) + 1 = ((cnt c k + 1 : Nat) : Int) ∧ (((cnt c k : Nat) : Int) + 1) % 4294967296 = ((cnt c (k + 1) : Nat) : Int) := by
  refine ⟨by omega, ?_⟩
  unfold cnt
  omega
theorem cnt_still (c k : Nat) (h : k % 64 ≠ 0) : cnt c (k + 1) = cnt c k := by unfold cnt; rw [show (k + 1 + 63) / 64 = (k + 63) / 64 by omega]
theorem cur_next (key nonce : ByteArray) (c k : Nat) : cur key nonce c (k + 1) = blkS key nonce ((c + k / 64) % 4294967296) := by
  unfold cur
  rw [if_neg (by omega), show k + 1 - 1 = k by omega]
theorem cur_still (key nonce : ByteArray) (c k : Nat) (h : k % 64 ≠ 0) : cur key nonce c k = blkS key nonce ((c + k / 64) % 4294967296) := by
  unfold cur
  rw [if_neg (by omega), show (k - 1) / 64 = k / 64 by omega]
theorem block_blk (key nonce : ByteArray) (c : Nat) (w : World) (hc : c < 4294967296) (h : ok key nonce) :
    Calls Try.prog 11 #[.string key, .int .u32 (c : Int), .string nonce] w fun e w' => e = .returned (.tuple #[.string (blkS key nonce c), .int .i64 0]) ∧ Below w.heap.size w w' := block_walk key nonce c w hc h
theorem index_ks (key nonce : ByteArray) (c k : Nat) (W : World) : (Instr.index 9 (.string (blkS key nonce ((c + k / 64) % 4294967296))) (.int .i64 ((k : Int) % 64))).run Try.prog W = .ok (.int .u8 ((ks key nonce c k : Nat) : Int)) W := by
  have h := index_by8 (blkS key nonce ((c + k / 64) % 4294967296)) (k % 64) (by rw [blkS_size]; omega) W
  rwa [show ((k % 64 : Nat) : Int) = (k : Int) % 64 by omega] at h
set_option maxHeartbeats 8000000 in
set_option maxRecDepth 100000 in
theorem xor_walk (key nonce text : ByteArray) (c : Nat) (w : World) (hc : c < 4294967296) (h : ok key nonce) (hn : text.size ≤ 140737488351232) :
    Calls Try.prog 17 #[.string key, .int .u32 (c : Int), .string nonce, .string text] w fun e w' => e = .returned (.tuple #[.string (xs key nonce c text), .int .i64 0]) ∧ Below w.heap.size w w' := by
  have hf := st_fit key c nonce hc
  have HS := Lib.hid (fun w => state_walk key nonce c w hc h)
  have HB := Lib.hid (fun (j : Nat) (hj : j < 4294967296) (w : World) => block_blk key nonce j w hj h)
  clear h
  generalize st key c nonce = S at hf HS
  have hsz := size23 hf
  have kb := fun (W : World) => print_bytes (P := Try.prog) 9 38 5 Try.underlying9 Try.underlying38 Try.underlying5 text W
  go_enter Try.func17, Try.ntmps17
  go_wp2_with (first | (go_at_call 9; with_reducible refine (HS.out _).mono ?_; rintro e w1 ⟨rfl, hb1⟩; have hbs := below_setRow (hb1.alloc hb1.size (.cells zs 23)) hb1.size (ws S)) | ((with_reducible refine gate_store (t := 23) (p := 10) (v := .tmp 20) rfl ?_); refine wpList_store_row rfl 23 (.tmp 10) (.tmp 20) rfl w1.heap.size (ws S) rfl rfl 23 zs (Blk.new w1 23 zs) hsz (zs_fit hf) (ws_one _) ?_; change wpList _ _ _ _ _ ((w1.alloc (.cells zs 23)).setRow w1.heap.size (ws S)); generalize (w1.alloc (.cells zs 23)).setRow w1.heap.size (ws S) = W1 at hbs ⊢))
  have hB2 := bytes_below hbs hbs.size 5 text
  have hR := bytes_BR W1 text
  rw [← xk_zero key nonce c text] at hR
  generalize Lib.bytesWorld W1 5 text = W2 at hR hB2 ⊢
  clear kb hsz HS hf
  have hW1 := hbs.size
  clear hbs hb1
  go_loopw [1, 13, 29] (fun v1 v13 v29 wr => ∃ k : Nat, k ≤ text.size ∧ v29 = .int .i64 (k : Int) ∧ v1 = .int .u32 ((cnt c k : Nat) : Int) ∧ v13 = .string (cur key nonce c k) ∧ BR wr W1.heap.size (xk key nonce c text k) ∧ Below w.heap.size w wr) (fun _ _ v29 _ => text.size - (intOf v29).toNat)
  case atStart => exact ⟨0, Nat.zero_le _, rfl, by rw [cnt_at c 0 rfl, Nat.zero_div, Nat.add_zero, Nat.mod_eq_of_lt hc], rfl, hR, hB2⟩
  case round =>
    clear hR hB2
    obtain ⟨k, hk, rfl, rfl, rfl, hR, hb⟩ := hrel
    by_cases hlt : k < text.size
    · have c1 := hR.cell (j := k) (by rw [xk_length]; exact hlt)
      have f1 := hR.frozen (j := k) (by rw [xk_length]; exact hlt)
      rw [xk_at _ _ _ _ _ hlt] at c1
      have hix := index_ks key nonce c k
      have hx := u8_xor_nat (by8 text k) (ks key nonce c k) (by8_lt _ _) (ks_lt _ _ _ _)
      have hnx := xk_set key nonce c text k
      unfold xb at hnx
      have hxl := xor_lt8 _ _ (by8_lt text k) (ks_lt key nonce c k)
      generalize by8 text k ^^^ ks key nonce c k = x at hx hnx hxl
      generalize by8 text k = b1 at hx c1
      generalize ks key nonce c k = b2 at hx hix
      have HN := Lib.hid hnx
      clear hnx
      have zk : (k : Int) < (text.size : Int) := by omega
      by_cases h0 : k % 64 = 0
      · have z0 : ((k : Int) % 64 == 0) = true := by simp; omega
        have hcn := (cnt_next c k h0).2
        have hcl := cnt_lt c k
        rw [← cnt_at c k h0] at hix
        have hu := cur_next key nonce c k
        rw [← cnt_at c k h0] at hu
        have HU := Lib.hid hu
        clear h0 hu
        go_wp2_with (first | (go_at_call 11; with_reducible refine (HB.out _ hcl _).mono ?_; rintro e w3 ⟨rfl, hb3⟩))
        have hR3 := hR.below hb3 hR.lt
        have c3 : w3.cell? ⟨W1.heap.size, k, none⟩ = some (.int .u8 (b1 : Int)) := (hb3.cell (p := ⟨W1.heap.size, k, none⟩) hR.lt).trans c1
        have f3 : w3.frozen? ⟨W1.heap.size, k, none⟩ = false := (hb3.frozen (p := ⟨W1.heap.size, k, none⟩) hR.lt).trans f1
        have hb4 := below_next hb hb3
        clear c1 f1 hR hb hb3
        refine Q.wp_quiet_tail 10 (by kernel_rfl) (by kernel_rfl) ?_
        simp only [List.take_succ_cons, List.take_zero, List.drop_succ_cons, List.drop_zero]
        repeat go_big_quiet_step (fail)
        refine wpQuiet_nil ?_
        intro _ hw'
        obtain ⟨m, rfl⟩ := hw'
        go_wp2_with fail
        go_roundw
        case rel => exact ⟨k + 1, by omega, by go_num, by rw [hcn], by rw [HU.out], by rw [HN.out]; exact (hR3.drewN m).put k _, (below_drewN hb4 m).setCell hW1 _⟩
        case measure => simp [intOf]; omega
      · have z0 : ((k : Int) % 64 == 0) = false := by simp; omega
        rw [cur_still key nonce c k h0]
        have HU := Lib.hid (cur_next key nonce c k)
        have HC := Lib.hid (cnt_still c k h0)
        clear h0
        go_wp2
        refine Q.wp_quiet_tail 10 (by kernel_rfl) (by kernel_rfl) ?_
        simp only [List.take_succ_cons, List.take_zero, List.drop_succ_cons, List.drop_zero]
        repeat go_big_quiet_step (fail)
        refine wpQuiet_nil ?_
        intro _ hw'
        obtain ⟨m, rfl⟩ := hw'
        go_wp2_with fail
        go_roundw
        case rel => exact ⟨k + 1, by omega, by go_num, by rw [HC.out], by rw [HU.out], by rw [HN.out]; exact (hR.drewN m).put k _, (below_drewN hb m).setCell hW1 _⟩
        case measure => simp [intOf]; omega
    · obtain rfl : k = text.size := by omega
      clear hlt hk
      have hrd := hR.reads (by rw [xk_length]; omega)
      rw [xk_length, xk_all] at hrd
      have hcv := fun (cc : Nat) => string_of_reads (P := Try.prog) (c := cc) Try.underlying38 Try.underlying5 Try.underlying9 hrd
      go_wp2
      go_ret2
      exact ⟨rfl, hb⟩
end Go.Proofs.Ytpojbjldboknmaa.Xa
