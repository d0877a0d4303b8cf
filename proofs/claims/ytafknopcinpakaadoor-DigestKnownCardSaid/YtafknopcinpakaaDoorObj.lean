/-
  api.Object as a row of 32 cells; flotillaref0.CopyObject. Nothing that was there is changed.
  Conditions: as each theorem states them.
-/
import Derived.Test.YtafknopcinpakaaDoorLbl
import Derived.RangeFuncBox
namespace Go.Proofs.YtafknopcinpakaaDoor
open Go.RowKit
set_option linter.unusedVariables false
set_option linter.unusedSimpArgs false
set_option maxRecDepth 100000

attribute [local go_sem] heap_alloc_at heap_alloc_past setRow_alloc_at setRow_alloc_past
theorem setCell_block {w : World} {g k : Nat} {cs : Array Value} {t : TypeId} {fr : Nat × Nat} (h : w.heap[g]? = some (.cells cs t fr)) (v : Value) : (w.setCell ⟨g, k, none⟩ v).heap[g]? = some (.cells (cs.setIfInBounds k v) t fr) := by
  obtain ⟨hlt, hk⟩ := Array.getElem?_eq_some_iff.1 h
  show (w.heap.modify g _)[g]? = _
  rw [Array.getElem?_eq_getElem (by rw [Array.size_modify]; exact hlt), Array.getElem_modify_self, hk]
  rfl
theorem setCell_past {w : World} {g g' k : Nat} {v : Value} {o : Obj} (h : w.heap[g]? = some o) (hne : g ≠ g') : (w.setCell ⟨g', k, none⟩ v).heap[g]? = some o := (Below.heap_setCell _ _ _ _ hne).trans h
theorem setRow_past {w : World} {g g' : Nat} {cs : Array Value} {o : Obj} (h : w.heap[g]? = some o) (hne : g ≠ g') : (w.setRow g' cs).heap[g]? = some o := (setRow_other w g' g cs hne).trans h

/-- An object's cells: 32, one value each. -/
structure ObjC (cs : Array Value) : Prop where
  size : cs.size = 32
  one : ∀ u ∈ cs.toList, u.oneCell' = true
/-- The object without a field set. -/
def zob : Array Value := #[.int .i64 0, .string ⟨#[]⟩, .int .i64 0, .int .i64 0, .slice none 0 0, .int .i64 0, .int .i64 0, .bool false, .bool false, .bool false, .int .i64 0, .string ⟨#[]⟩, .string ⟨#[]⟩, .string ⟨#[]⟩, .int .i64 0, .bool false, .bool false, .int .i64 0, .int .i64 0, .string ⟨#[]⟩, .int .i64 0, .int .i64 0, .int .i64 0, .int .i64 0, .int .i64 0, .bool false, .int .u64 0, .slice none 0 0, .int .i64 0, .string ⟨#[]⟩, .int .i64 0, .int .i64 0]
theorem zob_objC : ObjC zob := ⟨rfl, by decide⟩
theorem ObjC.set {cs : Array Value} (h : ObjC cs) (i : Nat) {v : Value} (hv : v.oneCell' = true) : ObjC (cs.setIfInBounds i v) := by
  refine ⟨by simp [h.size], fun u hu => ?_⟩
  rw [Array.toList_setIfInBounds] at hu
  rcases List.mem_or_eq_of_mem_set hu with hu | rfl
  · exact h.one u hu
  · exact hv
theorem ObjC.szeq {cs cs' : Array Value} (h : ObjC cs) (h' : ObjC cs') : cs.size = cs'.size := h.size.trans h'.size.symm
theorem sizeObj : (Tryd.prog.info? 39).map (·.size) = some 32 := by kernel_rfl
theorem ObjC.info {cs : Array Value} (h : ObjC cs) : (Tryd.prog.info? 39).map (·.size) = some cs.size := by rw [h.size]; exact sizeObj
theorem build_zob (w : World) : (Instr.build 39 #[]).run Tryd.prog w = .ok (.agg zob) w := by kernel_rfl
theorem alloc_zob (w : World) : (Instr.alloc 39 true (.tuple #[])).run Tryd.prog w = .ok (.pointer (some ⟨w.heap.size, 0, none⟩)) (w.alloc (.cells zob 39)) := by kernel_rfl
/-- A list of labels that the call made. -/
theorem owns_slice {w : World} {base : Nat} {e : TypeId} {s n : Nat} {v : Value} {xs : List Value} (h : w.ownsRow base e s v n xs) : ∃ A c, v = .slice A n c := by
  rcases h.2 with ⟨rfl, rfl⟩ | ⟨g, cap, cur, rfl, _⟩
  · exact ⟨none, 0, rfl⟩
  · exact ⟨_, _, rfl⟩
theorem owns_below {w w' : World} {base : Nat} {e : TypeId} {s n : Nat} {v : Value} {xs : List Value} (h : w.ownsRow base e s v n xs) (hb : Below w.heap.size w w') : w'.ownsRow base e s v n xs := by
  refine ⟨h.1, ?_⟩
  rcases h.2 with h2 | ⟨g, cap, cur, rfl, h1, hg, h3⟩
  · exact .inl h2
  · exact .inr ⟨g, cap, cur, rfl, h1, keepA hb hg, h3⟩
theorem owns_mono {w : World} {base base' : Nat} {e : TypeId} {s n : Nat} {v : Value} {xs : List Value} (h : w.ownsRow base e s v n xs) (hb : base' ≤ base) : w.ownsRow base' e s v n xs := by
  refine ⟨h.1, ?_⟩
  rcases h.2 with h2 | ⟨g, cap, cur, rfl, h1, hg, h3⟩
  · exact .inl h2
  · exact .inr ⟨g, cap, cur, rfl, by omega, hg, h3⟩
theorem owns_set {w : World} {base : Nat} {e : TypeId} {s n : Nat} {v : Value} {xs : List Value} (h : w.ownsRow base e s v n xs) {g k : Nat} (hg : g < base) (u : Value) : (w.setCell ⟨g, k, none⟩ u).ownsRow base e s v n xs := by
  refine ⟨h.1, ?_⟩
  rcases h.2 with h2 | ⟨g', cap, cur, rfl, h1, hg', h3⟩
  · exact .inl h2
  · exact .inr ⟨g', cap, cur, rfl, h1, setCell_past hg' (by omega), h3⟩
theorem owns_setRow {w : World} {base : Nat} {e : TypeId} {s n : Nat} {v : Value} {xs : List Value} (h : w.ownsRow base e s v n xs) {g : Nat} (hg : g < base) (cs : Array Value) : (w.setRow g cs).ownsRow base e s v n xs := by
  refine ⟨h.1, ?_⟩
  rcases h.2 with h2 | ⟨g', cap, cur, rfl, h1, hg', h3⟩
  · exact .inl h2
  · exact .inr ⟨g', cap, cur, rfl, h1, setRow_past hg' (by omega), h3⟩
theorem oneCell_of_owns {w : World} {base : Nat} {e : TypeId} {s n : Nat} {v : Value} {xs : List Value} (h : w.ownsRow base e s v n xs) : v.oneCell' = true := by
  obtain ⟨A, c, rfl⟩ := owns_slice h; rfl
theorem bSet {B g k : Nat} {w0 w : World} (hb : Below B w0 w) (hBg : B ≤ g) (v : Value) : Below B w0 (w.setCell ⟨g, k, none⟩ v) := hb.setCell (p := ⟨g, k, none⟩) hBg v

set_option maxHeartbeats 4000000 in
theorem copyObject (cs : Array Value) (A4 A27 : Option Addr) (c4 c27 : Nat) (l4 l27 : List (ByteArray × ByteArray)) (w : World) (hO : ObjC cs) (h4 : cs[4]? = some (.slice A4 l4.length c4)) (h27 : cs[27]? = some (.slice A27 l27.length c27))
    (hr4 : SlR w A4 l4.length 2 (lbCells l4)) (hr27 : SlR w A27 l27.length 2 (lbCells l27)) (hl4 : l4.length ≤ 4398046511104) (hl27 : l27.length ≤ 4398046511104) :
    Calls Tryd.prog 10 #[.agg cs] w fun e w' => ∃ v4 v27, e = .returned (.agg ((cs.setIfInBounds 4 v4).setIfInBounds 27 v27)) ∧ w'.ownsRow w.heap.size 36 2 v4 l4.length (lbCells l4) ∧ w'.ownsRow w.heap.size 36 2 v27 l27.length (lbCells l27) ∧ (v4.ownBlock = none ∨ v4.ownBlock ≠ v27.ownBlock) ∧ Below w.heap.size w w' := by
  have HR4 := Lib.hid hr4
  have HR27 := Lib.hid hr27
  clear hr4 hr27
  have ha := alloc_zob
  go_enter Tryd.func10, Tryd.ntmps10
  go_wp2_with (first | ((first | (with_reducible apply ldRow 39 Tryd.underlying39 rfl) | ((with_reducible apply ldRowG 39 Tryd.underlying39 rfl); (case hw => rfl))); (case hx => rfl); (case hg => ((try simp only [heap_drew]); (repeat (first | (with_reducible assumption) | (with_reducible exact newA _ _) | ((with_reducible refine heap_alloc_at _ _ ?_); focus (simp <;> omega)) | (with_reducible apply setRow_heap) | (with_reducible apply setCell_block) | ((with_reducible apply setCell_past); (case hne => (first | omega | (simp; done) | (simp <;> omega)))) | ((with_reducible apply setRow_past); (case hne => (first | omega | (simp; done) | (simp <;> omega)))) | (with_reducible apply pastA))))); (case hi => (refine ObjC.info ?_; (first | assumption | exact zob_objC | (refine ObjC.set ?_ _ rfl; first | assumption | exact zob_objC | (refine ObjC.set ?_ _ rfl; first | assumption | exact zob_objC)))))) | ((with_reducible apply stRow 39); (case hx => rfl); (case hy => rfl); (case hg => ((try simp only [heap_drew]); (repeat (first | (with_reducible assumption) | (with_reducible exact newA _ _) | ((with_reducible refine heap_alloc_at _ _ ?_); focus (simp <;> omega)) | (with_reducible apply setRow_heap) | (with_reducible apply setCell_block) | ((with_reducible apply setCell_past); (case hne => (first | omega | (simp; done) | (simp <;> omega)))) | ((with_reducible apply setRow_past); (case hne => (first | omega | (simp; done) | (simp <;> omega)))) | (with_reducible apply pastA))))); (case hs => (refine ObjC.szeq ?_ ?_ <;> (first | assumption | exact zob_objC | (refine ObjC.set ?_ _ rfl; first | assumption | exact zob_objC | (refine ObjC.set ?_ _ rfl; first | assumption | exact zob_objC))))); (case hi => (refine ObjC.info ?_; (first | assumption | exact zob_objC | (refine ObjC.set ?_ _ rfl; first | assumption | exact zob_objC | (refine ObjC.set ?_ _ rfl; first | assumption | exact zob_objC))))); (case h1 => (refine ObjC.one ?_; (first | assumption | exact zob_objC | (refine ObjC.set ?_ _ rfl; first | assumption | exact zob_objC | (refine ObjC.set ?_ _ rfl; first | assumption | exact zob_objC)))))))
  refine (copyLabels A4 c4 l4 _ (HR4.out.below (by repeat (first | exact Below.refl _ _ | refine allocB ?_ _))) hl4).mono ?_
  rintro e w1 ⟨v4, rfl, ho4, hb1⟩
  have X1 : Hid (w1.heap[w.heap.size]? = some (.cells cs 39 (0, 0))) := Lib.hid (keepA hb1 (by ((try simp only [heap_drew]); (repeat (first | (with_reducible assumption) | (with_reducible exact newA _ _) | ((with_reducible refine heap_alloc_at _ _ ?_); focus (simp <;> omega)) | (with_reducible apply setRow_heap) | (with_reducible apply setCell_block) | ((with_reducible apply setCell_past); (case hne => (first | omega | (simp; done) | (simp <;> omega)))) | ((with_reducible apply setRow_past); (case hne => (first | omega | (simp; done) | (simp <;> omega)))) | (with_reducible apply pastA))))))
  have X2 : Hid (w1.heap[w.heap.size + 1]? = some (.cells zob 39 (0, 0))) := Lib.hid (keepA hb1 (pastA _ (by exact heap_alloc_at _ _ (by simp))))
  have X3 : Hid (w1.heap[w.heap.size + 1 + 1]? = some (.cells cs 39 (0, 0))) := Lib.hid (keepA hb1 (by ((try simp only [heap_drew]); (repeat (first | (with_reducible assumption) | (with_reducible exact newA _ _) | ((with_reducible refine heap_alloc_at _ _ ?_); focus (simp <;> omega)) | (with_reducible apply setRow_heap) | (with_reducible apply setCell_block) | ((with_reducible apply setCell_past); (case hne => (first | omega | (simp; done) | (simp <;> omega)))) | ((with_reducible apply setRow_past); (case hne => (first | omega | (simp; done) | (simp <;> omega)))) | (with_reducible apply pastA))))))
  have B1 : Hid (Below w.heap.size w w1) := Lib.hid (thenK (by repeat (first | exact Below.refl _ _ | refine allocB ?_ _)) hb1)
  have O4 : Hid (w1.ownsRow (w.heap.size + 1 + 1 + 1) 36 2 v4 l4.length (lbCells l4)) := Lib.hid (owns_mono ho4 (by simp))
  clear ho4 hb1
  have c27' : w1.cell? ⟨w.heap.size, 27, none⟩ = some (.slice A27 l27.length c27) := cellA X1.out h27
  obtain ⟨A, c, rfl⟩ := owns_slice O4.out
  have f3 : w1.frozen? ⟨w.heap.size + 1 + 1, 4, none⟩ = false := freeA X3.out
  have c3 : w1.cell? ⟨w.heap.size + 1 + 1, 4, none⟩ = some (.slice A4 l4.length c4) := cellA X3.out h4
  have z1 := B1.out.size
  have z3 := ltA X3.out
  go_wp2_with (first | ((first | (with_reducible apply ldRow 39 Tryd.underlying39 rfl) | ((with_reducible apply ldRowG 39 Tryd.underlying39 rfl); (case hw => rfl))); (case hx => rfl); (case hg => ((try simp only [heap_drew]); (repeat (first | (with_reducible assumption) | (with_reducible exact newA _ _) | ((with_reducible refine heap_alloc_at _ _ ?_); focus (simp <;> omega)) | (with_reducible apply setRow_heap) | (with_reducible apply setCell_block) | ((with_reducible apply setCell_past); (case hne => (first | omega | (simp; done) | (simp <;> omega)))) | ((with_reducible apply setRow_past); (case hne => (first | omega | (simp; done) | (simp <;> omega)))) | (with_reducible apply pastA))))); (case hi => (refine ObjC.info ?_; (first | assumption | exact zob_objC | (refine ObjC.set ?_ _ rfl; first | assumption | exact zob_objC | (refine ObjC.set ?_ _ rfl; first | assumption | exact zob_objC)))))) | ((with_reducible apply stRow 39); (case hx => rfl); (case hy => rfl); (case hg => ((try simp only [heap_drew]); (repeat (first | (with_reducible assumption) | (with_reducible exact newA _ _) | ((with_reducible refine heap_alloc_at _ _ ?_); focus (simp <;> omega)) | (with_reducible apply setRow_heap) | (with_reducible apply setCell_block) | ((with_reducible apply setCell_past); (case hne => (first | omega | (simp; done) | (simp <;> omega)))) | ((with_reducible apply setRow_past); (case hne => (first | omega | (simp; done) | (simp <;> omega)))) | (with_reducible apply pastA))))); (case hs => (refine ObjC.szeq ?_ ?_ <;> (first | assumption | exact zob_objC | (refine ObjC.set ?_ _ rfl; first | assumption | exact zob_objC | (refine ObjC.set ?_ _ rfl; first | assumption | exact zob_objC))))); (case hi => (refine ObjC.info ?_; (first | assumption | exact zob_objC | (refine ObjC.set ?_ _ rfl; first | assumption | exact zob_objC | (refine ObjC.set ?_ _ rfl; first | assumption | exact zob_objC))))); (case h1 => (refine ObjC.one ?_; (first | assumption | exact zob_objC | (refine ObjC.set ?_ _ rfl; first | assumption | exact zob_objC | (refine ObjC.set ?_ _ rfl; first | assumption | exact zob_objC)))))))
  refine (copyLabels A27 c27 l27 _ (HR27.out.below (bSet B1.out (by omega) _)) hl27).mono ?_
  rintro e w2 ⟨v27, rfl, ho27, hb2⟩
  have Y2 : Hid (w2.heap[w.heap.size + 1]? = some (.cells zob 39 (0, 0))) := Lib.hid (keepA hb2 (setCell_past X2.out (by omega)))
  have Y3 : Hid (w2.heap[w.heap.size + 1 + 1]? = some (.cells (cs.setIfInBounds 4 (.slice A l4.length c)) 39 (0, 0))) := Lib.hid (keepA hb2 (setCell_block X3.out _))
  have B2 : Hid (Below w.heap.size w w2) := Lib.hid (thenK (bSet B1.out (by omega) _) hb2)
  have P4 : Hid (w2.ownsRow (w.heap.size + 1 + 1 + 1) 36 2 (.slice A l4.length c) l4.length (lbCells l4)) := Lib.hid (owns_below (owns_set O4.out (by omega) _) hb2)
  have hz : w1.heap.size ≤ (w1.setCell ⟨w.heap.size + 1 + 1, 4, none⟩ (.slice A l4.length c)).heap.size := by simp [World.setCell]
  have P27 : Hid (w2.ownsRow w1.heap.size 36 2 v27 l27.length (lbCells l27)) := Lib.hid (owns_mono ho27 hz)
  have hne : (.slice A l4.length c : Value).ownBlock = none ∨ (.slice A l4.length c : Value).ownBlock ≠ v27.ownBlock := by
    rcases hq : (.slice A l4.length c : Value).ownBlock with _ | k
    · exact .inl rfl
    · right
      intro e
      have h1 := (O4.out.lt k hq).2
      have h2 := (P27.out.lt k e.symm).1
      omega
  clear ho27 hb2 X1 X2 X3 B1 O4 c27' f3 c3 hz
  obtain ⟨A', c', rfl⟩ := owns_slice P27.out
  have f3 : w2.frozen? ⟨w.heap.size + 1 + 1, 27, none⟩ = false := freeA Y3.out
  have c3 : w2.cell? ⟨w.heap.size + 1 + 1, 27, none⟩ = some (.slice A27 l27.length c27) := cellA Y3.out (by simp [h27])
  have Z3 := Y3.out
  have Z2 := Y2.out
  have z3' := ltA Z3
  go_wp2_with (first | ((first | (with_reducible apply ldRow 39 Tryd.underlying39 rfl) | ((with_reducible apply ldRowG 39 Tryd.underlying39 rfl); (case hw => rfl))); (case hx => rfl); (case hg => ((try simp only [heap_drew]); (repeat (first | (with_reducible assumption) | (with_reducible exact newA _ _) | ((with_reducible refine heap_alloc_at _ _ ?_); focus (simp <;> omega)) | (with_reducible apply setRow_heap) | (with_reducible apply setCell_block) | ((with_reducible apply setCell_past); (case hne => (first | omega | (simp; done) | (simp <;> omega)))) | ((with_reducible apply setRow_past); (case hne => (first | omega | (simp; done) | (simp <;> omega)))) | (with_reducible apply pastA))))); (case hi => (refine ObjC.info ?_; (first | assumption | exact zob_objC | (refine ObjC.set ?_ _ rfl; first | assumption | exact zob_objC | (refine ObjC.set ?_ _ rfl; first | assumption | exact zob_objC)))))) | ((with_reducible apply stRow 39); (case hx => rfl); (case hy => rfl); (case hg => ((try simp only [heap_drew]); (repeat (first | (with_reducible assumption) | (with_reducible exact newA _ _) | ((with_reducible refine heap_alloc_at _ _ ?_); focus (simp <;> omega)) | (with_reducible apply setRow_heap) | (with_reducible apply setCell_block) | ((with_reducible apply setCell_past); (case hne => (first | omega | (simp; done) | (simp <;> omega)))) | ((with_reducible apply setRow_past); (case hne => (first | omega | (simp; done) | (simp <;> omega)))) | (with_reducible apply pastA))))); (case hs => (refine ObjC.szeq ?_ ?_ <;> (first | assumption | exact zob_objC | (refine ObjC.set ?_ _ rfl; first | assumption | exact zob_objC | (refine ObjC.set ?_ _ rfl; first | assumption | exact zob_objC))))); (case hi => (refine ObjC.info ?_; (first | assumption | exact zob_objC | (refine ObjC.set ?_ _ rfl; first | assumption | exact zob_objC | (refine ObjC.set ?_ _ rfl; first | assumption | exact zob_objC))))); (case h1 => (refine ObjC.one ?_; (first | assumption | exact zob_objC | (refine ObjC.set ?_ _ rfl; first | assumption | exact zob_objC | (refine ObjC.set ?_ _ rfl; first | assumption | exact zob_objC)))))))
  ((apply retRow 39 Tryd.underlying39 rfl (fr := (0, 0))); (case hf => rfl); (case hp => rfl); (case hg => ((try simp only [heap_drew]); (repeat (first | (with_reducible assumption) | (with_reducible exact newA _ _) | ((with_reducible refine heap_alloc_at _ _ ?_); focus (simp <;> omega)) | (with_reducible apply setRow_heap) | (with_reducible apply setCell_block) | ((with_reducible apply setCell_past); (case hne => (first | omega | (simp; done) | (simp <;> omega)))) | ((with_reducible apply setRow_past); (case hne => (first | omega | (simp; done) | (simp <;> omega)))) | (with_reducible apply pastA))))); (case hi => (refine ObjC.info ?_; (first | assumption | exact zob_objC | (refine ObjC.set ?_ _ rfl; first | assumption | exact zob_objC | (refine ObjC.set ?_ _ rfl; first | assumption | exact zob_objC))))); (case hdf => rfl))
  refine ⟨_, _, rfl, ?_, ?_, hne, ?_⟩
  · exact owns_mono (owns_setRow (owns_set P4.out (by omega) _) (by omega) _) (by omega)
  · exact owns_mono (owns_setRow (owns_set P27.out (by omega) _) (by omega) _) (by omega)
  · exact bSetRow (bSet B2.out (by omega) _) (by omega) _
end Go.Proofs.YtafknopcinpakaaDoor
