/-
  Blocks that are known, carried into later worlds. Of any program; no conditions beyond those stated.
-/
import Derived.Test.YtdcnojjcffkmaaaDoorRow
namespace Go.Proofs.YtdcnojjcffkmaaaDoor
open Go.RowKit
set_option linter.unusedVariables false
/-! ### A block that is known, in later worlds -/
theorem ltA {w : World} {g : Nat} {o : Obj} (h : w.heap[g]? = some o) : g < w.heap.size := (Array.getElem?_eq_some_iff.1 h).1
theorem keepA {W w : World} {g : Nat} {o : Obj} (hb : Below W.heap.size W w) (h : W.heap[g]? = some o) : w.heap[g]? = some o := (hb.block g (ltA h)).trans h
theorem pastA {w : World} {g : Nat} {o : Obj} (o' : Obj) (h : w.heap[g]? = some o) : (w.alloc o').heap[g]? = some o := (heap_alloc_past _ _ (ltA h)).trans h
theorem newA (w : World) (o : Obj) : (w.alloc o).heap[w.heap.size]? = some o := heap_alloc_at _ _ rfl
theorem cellA {w : World} {g k : Nat} {cs : Array Value} {t : TypeId} {fr : Nat × Nat} {v : Value} (h : w.heap[g]? = some (.cells cs t fr)) (hk : cs[k]? = some v) : w.cell? ⟨g, k, none⟩ = some v := (cell_of_row w g k cs t fr h).trans hk
theorem freeA {w : World} {g k : Nat} {cs : Array Value} {t : TypeId} (h : w.heap[g]? = some (.cells cs t (0, 0))) : w.frozen? ⟨g, k, none⟩ = false := frozen_of_row w g k cs t h
theorem thenB {w w1 w2 : World} {B : Nat} (h : Below B w w1) (h2 : Below w1.heap.size w1 w2) (hB : B ≤ w1.heap.size) : Below B w w2 := h.trans (h2.mono hB)
theorem allocB {w w1 : World} (h : Below w.heap.size w w1) (o : Obj) : Below w.heap.size w (w1.alloc o) := h.alloc h.size o
theorem thenK {w w1 w2 : World} (h : Below w.heap.size w w1) (h2 : Below w1.heap.size w1 w2) : Below w.heap.size w w2 := h.trans (h2.mono h.size)
end Go.Proofs.YtdcnojjcffkmaaaDoor
