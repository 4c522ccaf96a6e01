/-
  Words for a block that is changed while all else stays; results that are a row and a number; max and min of two.
-/
import Derived.Test.YtjainkepgmdkiaaDoorTc
import Derived.Test.YtjainkepgmdkiaaDoorQ
import Derived.Laws.Rows
import Derived.Laws.Tables
namespace Go.Proofs.YtjainkepgmdkiaaDoor.Tz
open Go.RowKit Go.Proofs.YtjainkepgmdkiaaDoor.B Go.Proofs.YtjainkepgmdkiaaDoor.Ta Go.Proofs.YtjainkepgmdkiaaDoor.Tb Go.Proofs.YtjainkepgmdkiaaDoor.Tc
theorem max2_int (k k' : IntKind) (x y : Int) : Builtin.max2 (.int k x) (.int k' y) = pure (.int k (if x < y then y else x)) := by simp only [Builtin.max2, gt_iff_lt]
theorem min2_int (k k' : IntKind) (x y : Int) : Builtin.min2 (.int k x) (.int k' y) = pure (.int k (if y < x then y else x)) := by simp only [Builtin.min2]
theorem max_two (ats : Array TypeId) (ty : TypeId) (a b : Value) : Builtin.max_ ats ty #[a, b] = (Builtin.max2 a b >>= fun s => pure s) := by simp only [Builtin.max_, List.foldlM_cons, List.foldlM_nil]
theorem min_two (ats : Array TypeId) (ty : TypeId) (a b : Value) : Builtin.min_ ats ty #[a, b] = (Builtin.min2 a b >>= fun s => pure s) := by simp only [Builtin.min_, List.foldlM_cons, List.foldlM_nil]
section
variable {P : Program} {ops : Array Oper} {Q : Exit → Act → World → Prop} {a : Act} {W : World} {rest : List Oper} {o : Oper}
theorem gate_store {t : TypeId} {p : Tmp} {v : Operand} (_ho : o.op = .store t (.tmp p) v) (h : wpList P ops Q (o :: rest) a W) : wpList P ops Q (o :: rest) a W := h
theorem gate_dst {N : Tmp} (_hN : o.dst = some N) (h : wpList P ops Q (o :: rest) a W) : wpList P ops Q (o :: rest) a W := h
theorem gate_guard (hw : Region.wanted o (yielded ops a.tmps) = true) (h : wpList P ops Q ({ o with guard := none } :: rest) a W) : wpList P ops Q (o :: rest) a W := by
  have h1 : Region.wanted { o with guard := none } (yielded ops a.tmps) = true := rfl
  unfold wpList at h ⊢
  rw [if_pos h1] at h
  rw [if_pos hw]
  exact h
end
theorem results_row_tmp {P : Program} {fn : Func} {p q : Tmp} {ty : TypeId} (h : fn.results = #[.cell p ty, .tmp q]) (tmps : Array Value) (w : World) (g : Nat) (t : TypeId) (cs : Array Value) (fr : Nat × Nat) (d : TypeDesc)
    (hp : tmps.getD p undef = .pointer (some ⟨g, 0, none⟩)) (hg : w.heap[g]? = some (.cells cs t fr))
    (hu : P.underlying ty = some d) (hd : (match d with | .struct _ | .array _ _ => true | _ => false) = true) (hi : (P.info? ty).map (·.size) = some cs.size) :
    (results fn tmps).run P w = .ok (.tuple #[.agg cs, tmps.getD q undef]) w := by
  have hp' : tmps[p]?.getD undef = .pointer (some ⟨g, 0, none⟩) := by simpa using hp
  simp [results, h, hp', asAddr, run_loadVar_row w g t ty cs fr d hg hu hd hi]
theorem below_setRow {B g : Nat} {a w : World} (h : Below B a w) (hg : B ≤ g) (cs : Array Value) : Below B a (w.setRow g cs) := h.trans ⟨rfl, rfl, rfl, by simp [World.setRow], fun k hk => setRow_other w g k cs (by omega)⟩
/-- All blocks but g are as they were. -/
def On (w w' : World) (g : Nat) : Prop := World.grownBy w w' (some g)
theorem On.refl (w : World) (g : Nat) : On w w g := World.grownBy.refl w _
theorem On.trans {w w1 w2 : World} {g : Nat} (h : On w w1 g) (k : On w1 w2 g) : On w w2 g :=
  ⟨k.os.trans h.os, k.tape.trans h.tape, k.output.trans h.output, Nat.le_trans h.size k.size, fun b hb hn => (k.block b (Nat.lt_of_lt_of_le hb h.size) hn).trans (h.block b hb hn)⟩
theorem On.of_below {w w' : World} {g : Nat} (h : Below w.heap.size w w') : On w w' g := ⟨h.os, h.tape, h.output, h.size, fun b hb _ => h.block b hb⟩
theorem On.drewN {w w' : World} {g : Nat} (h : On w w' g) (n : Nat) : On w (w'.drewN n) g := h.trans (.of_below (below_drewN (Below.refl _ _) n))
theorem setCell_on (w : World) (g i : Nat) (v : Value) : On w (w.setCell ⟨g, i, none⟩ v) g :=

  ⟨rfl, rfl, rfl, by simp [World.setCell], fun b _ hn => Below.heap_setCell w ⟨g, i, none⟩ v b (fun e => hn (by rw [e]))⟩
theorem On.setCell {w w' : World} {g : Nat} (h : On w w' g) (i : Nat) (v : Value) : On w (w'.setCell ⟨g, i, none⟩ v) g := h.trans (setCell_on _ _ _ _)
theorem On.below {B : Nat} {w0 w w' : World} {g : Nat} (h : On w w' g) (hb : Below B w0 w) (hB : B ≤ g) (hs : B ≤ w.heap.size) : Below B w0 w' :=
  ⟨h.os.trans hb.os, h.tape.trans hb.tape, h.output.trans hb.output, Nat.le_trans hb.size h.size, fun k hk => (h.block k (Nat.lt_of_lt_of_le hk hs) (fun e => by have := Option.some.inj e; omega)).trans (hb.block k hk)⟩
theorem Blk.on {w w' : World} {g k : Nat} {t : TypeId} {cs : Array Value} (h : Blk w k t cs) (ho : On w w' g) (hk : k ≠ g) : Blk w' k t cs := (ho.block k h.lt (fun e => hk (Option.some.inj e))).trans h
theorem Gl.on {w w' : World} {g : Nat} (h : Gl w) (ho : On w w' g) (hg : g ≠ 0) : Gl w' := h.keep (ho.block 0 h.lt (fun e => hg (Option.some.inj e).symm))
end Go.Proofs.YtjainkepgmdkiaaDoor.Tz
