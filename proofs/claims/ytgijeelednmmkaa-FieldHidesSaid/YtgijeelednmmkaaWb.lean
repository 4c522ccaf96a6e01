/-
  The walk of the test that a list has 1 to 255 different elements.
-/
import Derived.Test.YtgijeelednmmkaaWa
import Derived.Test.YtgijeelednmmkaaWWords
namespace Go.Proofs.Ytgijeelednmmkaa.Wb
open Go.RowKit Go.Proofs.Ytgijeelednmmkaa.M Go.Proofs.Ytgijeelednmmkaa.B Go.Proofs.YtgijeelednmmkaaW.PrintWords

/-- A list of bytes. -/
def Bytes (l : List Int) : Prop := ∀ x ∈ l, 0 ≤ x ∧ x ≤ 255
instance (l : List Int) : Decidable (Bytes l) := by unfold Bytes; infer_instance
/-- 1 to 255 different elements. -/
def dist (l : List Int) : Bool := decide l.Nodup && decide (1 ≤ l.length) && decide (l.length ≤ 255)

theorem bytes_rd {l : List Int} (h : Bytes l) (k : Nat) (hk : k < l.length) : ∃ n : Nat, n < 256 ∧ rd l (k : Int) = (n : Int) ∧ l[k] = (n : Int) := by
  have e : rd l (k : Int) = l[k] := by simp [rd, hk]
  have h2 := h l[k] (List.getElem_mem hk)
  exact ⟨l[k].toNat, by omega, by rw [e]; omega, by omega⟩

theorem take_next (l : List Int) (k : Nat) (hk : k < l.length) (n : Nat) (he : l[k] = (n : Int)) : l.take (k + 1) = l.take k ++ [(n : Int)] := by
  rw [List.take_succ_eq_append_getElem hk, he]

theorem dist_of (l : List Int) (h : l.Nodup) : dist l = (decide (1 ≤ l.length) && decide (l.length ≤ 255)) := by simp [dist, h]
theorem dist_again (l : List Int) (k : Nat) (hk : k < l.length) (n : Nat) (he : l[k] = (n : Int)) (hm : (n : Int) ∈ l.take k) : dist l = false := by
  have hn : ¬ l.Nodup := by
    intro hnd
    have h2 : (l.take (k + 1)).Nodup := hnd.sublist (List.take_sublist _ _)
    rw [take_next l k hk n he, List.nodup_append] at h2
    exact h2.2.2 _ hm _ (by simp) rfl
  simp [dist, hn]
theorem nodup_next (l : List Int) (k : Nat) (hk : k < l.length) (n : Nat) (he : l[k] = (n : Int)) (hm : ¬ (n : Int) ∈ l.take k) (h : (l.take k).Nodup) : (l.take (k + 1)).Nodup := by
  rw [take_next l k hk n he, List.nodup_append]
  refine ⟨h, by simp, fun a ha b hb e => ?_⟩
  have hb' : b = (n : Int) := by simpa using hb
  subst hb'; subst e
  exact hm ha
theorem seen_next (l : List Int) (k : Nat) (hk : k < l.length) (n : Nat) (he : l[k] = (n : Int)) (cs : Array Value) (hs : cs.size = 256) (hc : ∀ v : Nat, v < 256 → cs[v]? = some (.bool (decide ((v : Int) ∈ l.take k)))) :
    ∀ v : Nat, v < 256 → (cs.setIfInBounds n (.bool true))[v]? = some (.bool (decide ((v : Int) ∈ l.take (k + 1)))) := by
  intro v hv
  rw [take_next l k hk n he]
  by_cases e : v = n
  · subst e
    rw [Array.getElem?_setIfInBounds_self_of_lt (by omega)]
    simp
  · rw [Array.getElem?_setIfInBounds_ne (by omega), hc v hv]
    have : (v : Int) ≠ (n : Int) := by omega
    simp [this]

def noneSeen : Array Value := Array.replicate 256 (.bool false)
theorem zero46 (w : World) : (zeroValue 46).run Try.prog w = .ok (.agg noneSeen) w := by kernel_rfl

set_option maxHeartbeats 800000 in
theorem distinct_walk (A0 : Option Addr) (c0 : Nat) (l : List Int) (w : World) (hr : Kd.C (Kd.int .u8) w A0 l.length l) (hb : Bytes l) :
    Calls Try.prog 27 #[.slice A0 l.length c0] w fun e w' => e = .returned (.bool (dist l)) ∧ Below w.heap.size w w' := by
  have hlen : l.length ≤ 9223372036854775807 := hr.2.1
  have hz := zero46
  go_enter Try.func27, Try.ntmps27
  go_wp2
  go_loopw [8] (fun v8 wr => ∃ (k : Nat) (cs : Array Value), k ≤ l.length ∧ v8 = .int .i64 (k : Int) ∧ Blk wr w.heap.size 46 cs ∧ cs.size = 256 ∧ (∀ v : Nat, v < 256 → cs[v]? = some (.bool (decide ((v : Int) ∈ l.take k)))) ∧ (l.take k).Nodup ∧ Below w.heap.size w wr) (fun v8 _ => l.length - (intOf v8).toNat)
  case atStart => exact ⟨0, noneSeen, Nat.zero_le _, rfl, Blk.new _ _ _, by simp [noneSeen], fun v hv => by simp [noneSeen, hv], by simp, (Below.refl _ _).alloc (Nat.le_refl _) _⟩
  case round =>
    obtain ⟨k, cs, hk, rfl, hblk, hsz, hcs, hnd, hbel⟩ := hrel
    by_cases hlt : k < l.length
    · obtain ⟨n, hn, hrd, hget⟩ := bytes_rd hb k hlt
      obtain ⟨ad, e0, hcell⟩ := Kd.at_int (Kd.C_below hr hbel) (k : Int) (by omega) (by omega)
      subst e0
      rw [hrd] at hcell
      simp only [Int.toNat_natCast] at hcell
      have hc0 := hblk.cell n
      rw [hcs n hn] at hc0
      have hfz := hblk.frozen n
      have HG := Lib.hid hget
      have HR := Lib.hid hrd
      have HC := Lib.hid hcs
      have HS := Lib.hid hsz
      clear hget hrd hcs hsz
      by_cases hm : (n : Int) ∈ l.take k
      · have hd : decide ((n : Int) ∈ l.take k) = true := decide_eq_true hm
        rw [hd] at hc0
        clear hd
        go_wp2
        go_ret
        exact ⟨ret_bool (dist_again l k hlt n HG.out hm).symm, hbel⟩
      · have hd : decide ((n : Int) ∈ l.take k) = false := decide_eq_false hm
        rw [hd] at hc0
        clear hd
        go_wp2
        go_roundw
        case rel => exact ⟨k + 1, cs.setIfInBounds n (.bool true), by omega, by go_num, hblk.put n _, by simpa using HS.out, seen_next l k hlt n HG.out cs HS.out HC.out, nodup_next l k hlt n HG.out hm hnd, hbel.setCell (Nat.le_refl _) _⟩
        case measure => simp [intOf]; omega
    · obtain rfl : k = l.length := by omega
      have hnd' : l.Nodup := by rwa [List.take_length] at hnd
      clear hnd hcs
      by_cases h1 : 1 ≤ l.length
      · go_wp2
        go_ret
        exact ⟨ret_bool (by rw [dist_of l hnd']; simp [h1]; omega), hbel⟩
      · go_wp2
        go_ret
        exact ⟨ret_bool (by rw [dist_of l hnd']; simp [h1]), hbel⟩
end Go.Proofs.Ytgijeelednmmkaa.Wb
