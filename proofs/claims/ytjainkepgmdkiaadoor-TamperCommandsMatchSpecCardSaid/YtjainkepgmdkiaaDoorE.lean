/-
  Plain words: arrays of whole numbers compared; a region that draws its order, walked once within a class of worlds.
-/
import Derived.ChangeKeysEq
import Derived.Laws.Rows
import Derived.Laws.StructEq
import Derived.StillTail
import Derived.Deep.QuietTactic
import Derived.BigQuiet
namespace Go.Proofs.YtjainkepgmdkiaaDoor.E

/-- Whole numbers as cells. -/
def ints (k : IntKind) (l : List Int) : Array Value := (l.map fun n => Value.int k n).toArray
section
variable {P : Program} {w : World}
theorem part_int {e : TypeId} {k : IntKind} (he : P.underlying e = some (.int k)) (l : List Int) (j : Nat) (hj : j < l.length) : (part e (ints k l) j).run P w = .ok (.int k (l.getD j 0)) w := by
  simp [part, isAgg, run_underlying he, ints, List.getD_eq_getElem?_getD, hj]
theorem eqItems_ints (d : Nat) {e : TypeId} {k : IntKind} (he : P.underlying e = some (.int k)) (l m : List Int) (n : Nat) (hl : l.length = n) (hm : m.length = n) :
    ∀ is : List Nat, (∀ i ∈ is, i < n) → (Op.eqItems (d + 1) e 1 (ints k l) (ints k m) is).run P w = .ok (is.all fun i => l.getD i 0 == m.getD i 0) w
  | [], _ => by simp [Op.eqItems]
  | i :: is, h => by
    have hi := h i (by simp)
    have ih := eqItems_ints d he l m n hl hm is (fun j hj => h j (by simp [hj]))
    simp only [Op.eqItems, Sem.run_bind, Nat.mul_one, part_int he l i (by omega), part_int he m i (by omega), Result.andThen_ok, run_equalIn_int w d e k k _ _ he]
    cases hb : l.getD i 0 == m.getD i 0
    · simp only [List.all_cons, hb, Bool.not_false, if_true, Bool.false_and, Sem.run_pure]
    · simp only [List.all_cons, hb, Bool.not_true, Bool.false_eq_true, if_false, Bool.true_and]
      exact ih
theorem all_eq (l m : List Int) (n : Nat) (hl : l.length = n) (hm : m.length = n) : ((List.range n).all fun i => l.getD i 0 == m.getD i 0) = decide (l = m) := by
  rw [Bool.eq_iff_iff]
  simp only [List.all_eq_true, List.mem_range, beq_iff_eq, decide_eq_true_eq]
  constructor
  · intro h
    apply List.ext_getElem (by omega)
    intro i h1 h2
    have h3 := h i (by omega)
    simpa [List.getD_eq_getElem?_getD, h1, h2] using h3
  · rintro rfl i _
    rfl
theorem equalIn_ints (d : Nat) {t e : TypeId} {k : IntKind} {n : Nat} {i : TypeInfo} (hu : P.underlying t = some (.array n e)) (hi : P.info? e = some i) (hc : P.cellsOf e = 1) (he : P.underlying e = some (.int k)) (l m : List Int) (hl : l.length = n) (hm : m.length = n) :
    (Op.equalIn (d + 2) t (.agg (ints k l)) (.agg (ints k m))).run P w = .ok (decide (l = m)) w := by
  rw [run_equalIn_array w (d + 1) _ _ hu hi, hc, eqItems_ints d he l m n hl hm (List.range n) (fun i hi => List.mem_range.1 hi), all_eq l m n hl hm]
theorem eql_ints {t e : TypeId} {k : IntKind} {n : Nat} {i : TypeInfo} (hu : P.underlying t = some (.array n e)) (hi : P.info? e = some i) (hc : P.cellsOf e = 1) (he : P.underlying e = some (.int k)) (l m : List Int) (hl : l.length = n) (hm : m.length = n) :
    (binOp .eql t (.agg (ints k l)) (.agg (ints k m))).run P w = .ok (.bool (decide (l = m))) w := by
  rw [run_eql_struct, equalIn_ints 9998 hu hi hc he l m hl hm]
  rfl
theorem neq_ints {t e : TypeId} {k : IntKind} {n : Nat} {i : TypeInfo} (hu : P.underlying t = some (.array n e)) (hi : P.info? e = some i) (hc : P.cellsOf e = 1) (he : P.underlying e = some (.int k)) (l m : List Int) (hl : l.length = n) (hm : m.length = n) :
    (binOp .neq t (.agg (ints k l)) (.agg (ints k m))).run P w = .ok (.bool (!decide (l = m))) w := by
  rw [run_neq_struct, equalIn_ints 9998 hu hi hc he l m hl hm]
  rfl
end

/-! ### One walk of the lexical order, within a class of worlds that its calls keep -/
/-- A class of worlds, as what a letter ranges over. -/
theorem class_of (C : World → Prop) (w : World) (h : C w) : ∃ (I : Type) (W : I → World), Nonempty I ∧ (∀ i, C (W i)) ∧ (∀ w', C w' → ∃ i, w' = W i) :=
  ⟨{w' // C w'}, Subtype.val, ⟨⟨w, h⟩⟩, fun i => i.2, fun w' h => ⟨⟨w', h⟩, rfl⟩⟩
section
variable {P : Program} {ops : Array Oper} {C : World → Prop} {a : Act} {o : Oper} {K : Act → Prop}
theorem wp_region_class {id : Nat} {Q : Exit → Act → World → Prop} {w : World} {l : List Oper} (C : World → Prop) (I : Type) (W : I → World) (_hn : Nonempty I) (_hC : ∀ i, C (W i)) (hW : ∀ w', C w' → ∃ i, w' = W i)
    (hm : P.follows .mixedOrders = true) (hB : Region.lexB .any l.toArray = true) (h0 : C w.drew)
    (h : wpQuiet P l.toArray (fun w' => ∃ i, w' = W i) (fun a' => ∀ i, Q .normal a' (W i)) l a) : (Code.region id l.toArray true).wp P Q a w := by
  refine wp_region_quiet (C := fun w' => ∃ i, w' = W i) hm hB (hW _ h0) ?_
  have : wpQuiet P l.toArray (fun w' => ∃ i, w' = W i) (fun a' => ∀ w', (∃ i, w' = W i) → Q .normal a' w') l a := by
    have e : (fun a' : Act => ∀ w', (∃ i, w' = W i) → Q .normal a' w') = (fun a' => ∀ i, Q .normal a' (W i)) := by
      funext a'
      apply propext
      exact ⟨fun h i => h _ ⟨i, rfl⟩, fun h w' ⟨i, hi⟩ => by rw [hi]; exact h i⟩
    rw [e]
    exact h
  simpa using this
/-- A load of a whole row. -/
theorem quiet_row {I : Type} {W : I → World} (ty : TypeId) (x : Operand) (ho : o.op = .load ty x) (g : Nat) (hx : a.eval x = .pointer (some ⟨g, 0, none⟩)) (t : TypeId) (cs : Array Value) (fr : Nat × Nat) (d : TypeDesc)
    (hg : ∀ i, (W i).heap[g]? = some (.cells cs t fr)) (hu : P.underlying ty = some d) (hd : (match d with | .struct _ | .array _ _ => true | _ => false) = true) (hi : (P.info? ty).map (·.size) = some cs.size)
    (hk : K (a.put o.dst (.agg cs))) : o.quiet P a (fun w' => ∃ i, w' = W i) K := by
  refine ⟨_, ?_, hk⟩
  rintro w ⟨i, rfl⟩
  unfold Oper.quietAt
  have h := run_loadVar_row (P := P) (W i) g t ty cs fr d (hg i) hu hd hi
  have : (execOp a.eval o).run P (W i) = .ok (.value (.agg cs)) (W i) := by
    unfold execOp
    simp only [ho, hx, Instr.loadAt, Instr.sureAddr, Sem.run_bind, Sem.run_pure, Result.andThen_ok, h]
  rw [this]
  exact ⟨rfl, rfl⟩
/-- A call. -/
theorem quiet_call {I : Type} {W : I → World} {f : FuncId} {args : Array Value} {v : Value} (hrun : ∀ w, (execOp a.eval o).run P w = .ok (.enter f args) w)
    (hc : ∀ i, Calls P f args (W i) fun e w'' => e = .returned v ∧ ∃ j, w'' = W j) (hk : K (a.put o.dst v)) : o.quiet P a (fun w' => ∃ i, w' = W i) K := by
  refine ⟨v, ?_, hk⟩
  rintro w ⟨i, rfl⟩
  unfold Oper.quietAt
  rw [hrun (W i)]
  exact ⟨rfl, hc i⟩
theorem run_bin_agg (op : BinOp) (t t2 : TypeId) (x y : Operand) (xs ys : Array Value) (r : Value) (ho : o.op = .binOp op t x y t2) (hx : a.eval x = .agg xs) (hy : a.eval y = .agg ys) (hm : P.eqGuardType P.depth t = false) (hr : ∀ w, (binOp op t (.agg xs) (.agg ys)).run P w = .ok r w) (w : World) :
    (execOp a.eval o).run P w = .ok (.value r) w := by
  unfold execOp
  simp only [ho, hx, hy, Sem.run_bind, run_eqGuard_agg w op t x y xs ys hm, hr, Sem.run_pure, Result.andThen_ok]
/-- Two rows compared. -/
theorem quiet_bin_agg {I : Type} {W : I → World} (op : BinOp) (t t2 : TypeId) (x y : Operand) (xs ys : Array Value) (r : Value) (ho : o.op = .binOp op t x y t2) (hx : a.eval x = .agg xs) (hy : a.eval y = .agg ys) (hm : P.eqGuardType P.depth t = false) (hr : ∀ w, (binOp op t (.agg xs) (.agg ys)).run P w = .ok r w)
    (hk : K (a.put o.dst r)) : o.quiet P a (fun w' => ∃ i, w' = W i) K := by
  refine ⟨r, ?_, hk⟩
  rintro w ⟨i, rfl⟩
  unfold Oper.quietAt
  rw [run_bin_agg op t t2 x y xs ys r ho hx hy hm hr]
  exact ⟨rfl, rfl⟩
theorem wpList_bin_agg {rest : List Oper} {w : World} {Q : Exit → Act → World → Prop} (hgd : o.guard = none) (op : BinOp) (t t2 : TypeId) (x y : Operand) (xs ys : Array Value) (r : Value) (ho : o.op = .binOp op t x y t2) (hx : a.eval x = .agg xs) (hy : a.eval y = .agg ys) (hm : P.eqGuardType P.depth t = false) (hr : ∀ w, (binOp op t (.agg xs) (.agg ys)).run P w = .ok r w)
    (h : wpList P ops Q rest (a.put o.dst r) w) : wpList P ops Q (o :: rest) a w :=
  wpList_plain hgd fun K hK => by
    unfold Oper.wp
    rw [run_bin_agg op t t2 x y xs ys r ho hx hy hm hr]
    exact hK _ _ h
end
end Go.Proofs.YtjainkepgmdkiaaDoor.E
