/-
  Whole rows of api.Object for the walk's simp: a load and a store in one step. Nothing of the program's functions.
  Conditions: as each theorem states them.
-/
import Derived.Test.YtdcnojjcffkmaaaDoorProg
import Derived.Test.YtdcnojjcffkmaaaDoorKeep
namespace Go.Proofs.YtdcnojjcffkmaaaDoor
open Go.RowKit
set_option linter.unusedVariables false
set_option linter.unusedSimpArgs false
set_option maxRecDepth 100000

/-- Block g is one object: 32 cells that may be written. -/
def isOb (w : World) (g : Nat) : Bool :=
  match w.heap[g]? with
  | some (.cells cs t fr) => t == 27 && cs.size == 32 && fr == (0, 0)
  | _ => false
/-- A block's cells. -/
def rowOf (w : World) (g : Nat) : Array Value :=
  match w.heap[g]? with
  | some (.cells cs _ _) => cs
  | _ => #[]
/-- 32 values of one cell each. -/
def okRow (cs : Array Value) : Bool := cs.size == 32 && cs.toList.all (·.oneCell')

theorem isOb_spec {w : World} {g : Nat} (h : isOb w g = true) : w.heap[g]? = some (.cells (rowOf w g) 27 (0, 0)) ∧ (rowOf w g).size = 32 := by
  unfold isOb at h
  unfold rowOf
  split at h
  · rename_i cs t fr hq
    simp only [Bool.and_eq_true, beq_iff_eq] at h
    obtain ⟨⟨rfl, h2⟩, rfl⟩ := h
    simp [hq, h2]
  · cases h
theorem isOb_lt {w : World} {g : Nat} (h : isOb w g = true) : g < w.heap.size := ltA (isOb_spec h).1
theorem isOb_of {w : World} {g : Nat} {cs : Array Value} (h : w.heap[g]? = some (.cells cs 27 (0, 0))) (hs : cs.size = 32) : isOb w g = true := by simp [isOb, h, hs]
theorem rowOf_of {w : World} {g : Nat} {cs : Array Value} {t : TypeId} {fr : Nat × Nat} (h : w.heap[g]? = some (.cells cs t fr)) : rowOf w g = cs := by simp [rowOf, h]
theorem okRow_spec {cs : Array Value} (h : okRow cs = true) : cs.size = 32 ∧ ∀ u ∈ cs.toList, u.oneCell' = true := by
  simp only [okRow, Bool.and_eq_true, beq_iff_eq, List.all_eq_true] at h
  exact h
theorem okRow_set {cs : Array Value} (k : Nat) {v : Value} (h : okRow cs = true) (hv : v.oneCell' = true) : okRow (cs.setIfInBounds k v) = true := by
  obtain ⟨h1, h2⟩ := okRow_spec h
  simp only [okRow, Bool.and_eq_true, beq_iff_eq, List.all_eq_true]
  refine ⟨by simp [h1], fun u hu => ?_⟩
  rw [Array.toList_setIfInBounds] at hu
  rcases List.mem_or_eq_of_mem_set hu with hu | rfl
  · exact h2 u hu
  · exact hv
theorem one_int (k : IntKind) (n : Int) : (Value.int k n).oneCell' = true := rfl
theorem one_bool (b : Bool) : (Value.bool b).oneCell' = true := rfl
theorem one_string (s : ByteArray) : (Value.string s).oneCell' = true := rfl
theorem one_slice (a : Option Addr) (n c : Nat) : (Value.slice a n c).oneCell' = true := rfl

theorem obSize : (Tryd.prog.info? 27).map (·.size) = some 32 := by kernel_rfl
theorem run_loadOb {w : World} {g : Nat} (h : isOb w g = true) : (loadVar 27 ⟨g, 0, none⟩).run Tryd.prog w = .ok (.agg (rowOf w g)) w := by
  obtain ⟨h1, h2⟩ := isOb_spec h
  exact run_loadVar_row w g _ _ _ _ _ h1 Tryd.underlying27 rfl (by rw [h2]; exact obSize)
theorem run_storeOb {w : World} {g : Nat} {cs : Array Value} (h : isOb w g = true) (hc : okRow cs = true) : (storeVar 27 ⟨g, 0, none⟩ (.agg cs)).run Tryd.prog w = .ok () (w.setRow g cs) := by
  obtain ⟨h1, h2⟩ := isOb_spec h
  obtain ⟨h3, h4⟩ := okRow_spec hc
  exact run_storeVar_row w g _ _ _ cs h1 (by rw [h2, h3]) (by rw [h3]; exact obSize) h4

theorem run_storeCellsOb {w : World} {g : Nat} {cs : Array Value} (h : isOb w g = true) (hc : okRow cs = true) : (storeCells ⟨g, 0, none⟩ cs.toList).run Tryd.prog w = .ok () (w.setRow g cs) := by
  obtain ⟨h1, h2⟩ := isOb_spec h
  obtain ⟨h3, h4⟩ := okRow_spec hc
  have hst := run_storeCells_at (P := Tryd.prog) g 0 27 cs.toList 0 (rowOf w g) w h1 (by simp [h2, h3]) h4
  have e : ((rowOf w g).toList.take (0 + 0) ++ cs.toList ++ (rowOf w g).toList.drop (0 + 0 + cs.toList.length)).toArray = cs := by
    have h0 : (rowOf w g).toList.drop (0 + 0 + cs.toList.length) = [] := by simp [h2, h3]
    rw [h0]; simp
  rw [e] at hst
  exact hst
theorem wp_stOb {op : Oper} {a : Act} {w : World} {K : Act → World → Prop} {Q : Exit → Act → World → Prop} (x y : Operand) (ho : op.op = .store 27 x y)
    (g : Nat) (hx : a.eval x = .pointer (some ⟨g, 0, none⟩)) (cs : Array Value) (hy : a.eval y = .agg cs) (h : isOb w g = true) (hc : okRow cs = true)
    (hK : K (a.put op.dst undef) (w.setRow g cs)) : op.wp Tryd.prog a w K Q := by
  unfold Oper.wp execOp
  simp only [ho, hx, hy, Instr.storeAt, Instr.sureAddr, Sem.run_bind, Sem.run_pure, Result.andThen_ok, run_storeOb h hc]
  exact hK
theorem isOb_drew {w : World} {g : Nat} : isOb w.drew g = isOb w g := rfl
theorem rowOf_drew {w : World} {g : Nat} : rowOf w.drew g = rowOf w g := rfl
theorem isOb_alloc_at {w : World} {cs : Array Value} {g : Nat} (hg : g = w.heap.size) (hc : cs.size = 32) : isOb (w.alloc (.cells cs 27)) g = true := isOb_of (heap_alloc_at _ _ hg) hc
theorem rowOf_alloc_at {w : World} {cs : Array Value} {t : TypeId} {fr : Nat × Nat} {g : Nat} (hg : g = w.heap.size) : rowOf (w.alloc (.cells cs t fr)) g = cs := rowOf_of (heap_alloc_at _ _ hg)
/-- As 'var x api.Object' leaves it. -/
theorem isOb_zero {w : World} {g : Nat} (hg : g = w.heap.size) : isOb (w.alloc (.cells #[.int .i64 0, .string ⟨#[]⟩, .int .i64 0, .int .i64 0, .slice none 0 0, .int .i64 0, .int .i64 0, .bool false, .bool false, .bool false, .int .i64 0, .string ⟨#[]⟩, .string ⟨#[]⟩, .string ⟨#[]⟩, .int .i64 0, .bool false, .bool false, .int .i64 0, .int .i64 0, .string ⟨#[]⟩, .int .i64 0, .int .i64 0, .int .i64 0, .int .i64 0, .int .i64 0, .bool false, .int .u64 0, .slice none 0 0, .int .i64 0, .string ⟨#[]⟩, .int .i64 0, .int .i64 0] 27)) g = true := isOb_alloc_at hg rfl
theorem isOb_alloc {w : World} {o : Obj} {g : Nat} (h : isOb w g = true) : isOb (w.alloc o) g = true := by
  obtain ⟨h1, h2⟩ := isOb_spec h
  exact isOb_of (pastA _ h1) h2
theorem rowOf_alloc {w : World} {o : Obj} {g : Nat} (h : isOb w g = true) : rowOf (w.alloc o) g = rowOf w g := rowOf_of (pastA _ (isOb_spec h).1)
theorem obSetCell_at {w : World} {g k : Nat} (v : Value) (h : isOb w g = true) : (w.setCell ⟨g, k, none⟩ v).heap[g]? = some (.cells ((rowOf w g).setIfInBounds k v) 27 (0, 0)) := by
  obtain ⟨h1, _⟩ := isOb_spec h
  obtain ⟨hlt, hk⟩ := Array.getElem?_eq_some_iff.1 h1
  show (w.heap.modify g _)[g]? = _
  rw [Array.getElem?_eq_getElem (by rw [Array.size_modify]; exact hlt), Array.getElem_modify_self, hk]
  rfl
theorem isOb_setCell {w : World} {g g' k : Nat} {v : Value} (h : isOb w g = true) : isOb (w.setCell ⟨g', k, none⟩ v) g = true := by
  obtain ⟨h1, h2⟩ := isOb_spec h
  by_cases e : g = g'
  · subst e; exact isOb_of (obSetCell_at v h) (by simp [h2])
  · exact isOb_of ((Below.heap_setCell _ _ _ _ e).trans h1) h2
theorem rowOf_setCell {w : World} {g k : Nat} {v : Value} (h : isOb w g = true) : rowOf (w.setCell ⟨g, k, none⟩ v) g = (rowOf w g).setIfInBounds k v := rowOf_of (obSetCell_at v h)
theorem rowOf_setCell_ne {w : World} {g g' k : Nat} {v : Value} (h : isOb w g = true) (hne : g ≠ g') : rowOf (w.setCell ⟨g', k, none⟩ v) g = rowOf w g := rowOf_of ((Below.heap_setCell _ _ _ _ hne).trans (isOb_spec h).1)
theorem isOb_setRow {w : World} {g g' : Nat} {cs : Array Value} (h : isOb w g = true) (hc : cs.size = 32) : isOb (w.setRow g' cs) g = true := by
  obtain ⟨h1, h2⟩ := isOb_spec h
  by_cases e : g = g'
  · subst e; exact isOb_of (setRow_heap w g _ _ _ _ h1) hc
  · exact isOb_of ((setRow_other w g' g cs e).trans h1) h2
theorem rowOf_setRow {w : World} {g : Nat} {cs : Array Value} (h : isOb w g = true) : rowOf (w.setRow g cs) g = cs := rowOf_of (setRow_heap w g _ _ _ _ (isOb_spec h).1)
theorem rowOf_setRow_ne {w : World} {g g' : Nat} {cs : Array Value} (h : isOb w g = true) (hne : g ≠ g') : rowOf (w.setRow g' cs) g = rowOf w g := rowOf_of ((setRow_other w g' g cs hne).trans (isOb_spec h).1)
theorem cell_ob {w : World} {g k : Nat} (h : isOb w g = true) : w.cell? ⟨g, k, none⟩ = (rowOf w g)[k]? := cell_of_row w g k _ _ _ (isOb_spec h).1
theorem frozen_ob {w : World} {g k : Nat} (h : isOb w g = true) : w.frozen? ⟨g, k, none⟩ = false := frozen_of_row w g k _ _ (isOb_spec h).1
/-- Past a call. -/
theorem isOb_below {W w : World} {g : Nat} (hb : Below W.heap.size W w) (h : isOb W g = true) : isOb w g = true := by
  obtain ⟨h1, h2⟩ := isOb_spec h
  exact isOb_of (keepA hb h1) h2
theorem rowOf_below {W w : World} {g : Nat} (hb : Below W.heap.size W w) (h : isOb W g = true) : rowOf w g = rowOf W g := rowOf_of (keepA hb (isOb_spec h).1)

/-! Whole objects as one operation each: named ahead of the walk's own unfolding. -/
def obZero : Array Value := #[.int .i64 0, .string ⟨#[]⟩, .int .i64 0, .int .i64 0, .slice none 0 0, .int .i64 0, .int .i64 0, .bool false, .bool false, .bool false, .int .i64 0, .string ⟨#[]⟩, .string ⟨#[]⟩, .string ⟨#[]⟩, .int .i64 0, .bool false, .bool false, .int .i64 0, .int .i64 0, .string ⟨#[]⟩, .int .i64 0, .int .i64 0, .int .i64 0, .int .i64 0, .int .i64 0, .bool false, .int .u64 0, .slice none 0 0, .int .i64 0, .string ⟨#[]⟩, .int .i64 0, .int .i64 0]
theorem obZero_size : obZero.size = 32 := rfl
theorem obZero_ok : okRow obZero = true := by decide
/-- 'load' of a whole object. -/
def obLoad (g : Nat) : Sem Value := Instr.loadAt 27 (.pointer (some ⟨g, 0, none⟩))
/-- 'store' of a whole object. -/
def obStore (g : Nat) (cs : Array Value) : Sem Unit := Instr.storeAt 27 (.pointer (some ⟨g, 0, none⟩)) (.agg cs)
/-- 'alloc' of an object. -/
def obAlloc : Sem Value := Instr.alloc 27 true (.tuple #[])
theorem loadAt_ob (g : Nat) : Instr.loadAt 27 (.pointer (some ⟨g, 0, none⟩)) = obLoad g := by unfold obLoad; rfl
theorem storeAt_ob (g : Nat) (cs : Array Value) : Instr.storeAt 27 (.pointer (some ⟨g, 0, none⟩)) (.agg cs) = obStore g cs := by unfold obStore; rfl
theorem alloc_ob : Instr.alloc 27 true (.tuple #[]) = obAlloc := by unfold obAlloc; rfl
theorem run_obLoad {w : World} {g : Nat} (h : isOb w g = true) : (obLoad g).run Tryd.prog w = .ok (.agg (rowOf w g)) w := by
  unfold obLoad
  simp only [Instr.loadAt, Instr.sureAddr, Sem.run_bind, Sem.run_pure, Result.andThen_ok, run_loadOb h]
theorem run_obStore {w : World} {g : Nat} {cs : Array Value} (h : isOb w g = true) (hc : okRow cs = true) : (obStore g cs).run Tryd.prog w = .ok () (w.setRow g cs) := by
  unfold obStore
  simp only [Instr.storeAt, Instr.sureAddr, Sem.run_bind, Sem.run_pure, Result.andThen_ok, run_storeOb h hc]
theorem run_obAlloc (w : World) : obAlloc.run Tryd.prog w = .ok (.pointer (some ⟨w.heap.size, 0, none⟩)) (w.alloc (.cells obZero 27)) := by
  unfold obAlloc; kernel_rfl
theorem loadAt_other {t : TypeId} {v : Value} (h : (t == 27) = false) : Instr.loadAt t v = (do loadVar t (← Instr.sureAddr v)) := by unfold Instr.loadAt; rfl
theorem storeAt_other {t : TypeId} {v u : Value} (h : (t == 27) = false) : Instr.storeAt t v u = (do storeVar t (← Instr.sureAddr v) u) := by unfold Instr.storeAt; rfl
theorem alloc_other {t : TypeId} {h : Bool} {v : Value} (ht : (t == 27) = false) : Instr.alloc t h v = (do
  let zero ← zeroValue t
  match h, v with
  | false, .pointer (some a) =>
    storeVar t a zero
    pure v
  | _, _ => pure (.pointer (some (← newVar t zero)))) := by unfold Instr.alloc; rfl
end Go.Proofs.YtdcnojjcffkmaaaDoor
