/-
  errors.As (the two kinds of errors), flotillakit.Num, Plain, Place and At: what they answer of each of the program's errors.
  Conditions: Door (errors.errorType holds what start-up lays).
-/
import Derived.Test.YtdcnojjcffkmaaaDoorErrAs
namespace Go.Proofs.YtdcnojjcffkmaaaDoor
open Go.RowKit Go.Extern.Stop Go.Stop Go.Extern

theorem noAsErrno (v : Value) (xT : TypeId) (w : World) : (Instr.typeAssert (.iface 63 v) xT 135 true).run Tryd.prog w = .ok (.tuple #[.nilIface, .bool false]) w := run_typeAssert_lacksB Tryd.underlying135 (by kernel_rfl) (by kernel_rfl) v xT w

theorem asin_num (k : Int) (t x0 x1 x2 : Value) (w : World) : Calls Tryd.prog 47 #[.iface 63 (.int .i64 k), t, .agg #[x0, x1, x2], .iface 131 (.agg #[.pointer (some ⟨1, 67, none⟩)])] w fun e w' => e = .returned (.bool false) ∧ Below w.heap.size w w' := by
  have e1 := callTypeOfErrno
  have e2 := methodAssignableTo
  have e3 := cAssignErrno
  have e4 := noAsErrno
  have e5 := noUnwrapErrno
  have e6 := noUnwrapsErrno
  go_enter Tryd.func47, Tryd.ntmps47
  go_wp2
  refine wp_loop_rounds 1 ?_
  rw [rounds_succ]
  go_wp2
  go_ret
  exact ⟨rfl, by repeat (first | exact Below.refl _ _ | (refine Below.alloc ?_ (by simp) _))⟩

set_option maxHeartbeats 1000000 in
/-- errors.as at an api.Fault: the variable (block b) holds it behind the call. -/
theorem asin_plc (k i : Int) (b : Nat) (x y : Value) (a : Addr) (w : World) (ha : w.cell? a = some (.pointer (some ⟨b, 0, none⟩))) (ht : w.heap[b]? = some (.cells #[x, y] 67 (0, 0))) :
    Calls Tryd.prog 47 #[.iface 67 (.agg #[.int .i64 k, .int .i64 i]), .iface 70 (.pointer (some ⟨b, 0, none⟩)), .agg #[.pointer (some ⟨1, 70, none⟩), .pointer (some a), .int .u64 150], .iface 131 (.agg #[.pointer (some ⟨1, 67, none⟩)])] w
      fun e w' => e = .returned (.bool true) ∧ Below b w w' ∧ w'.heap[b]? = some (.cells #[.int .i64 k, .int .i64 i] 67 (0, 0)) := by
  have hb : b < w.heap.size := (Array.getElem?_eq_some_iff.1 ht).1
  have e1 := cTypeOfFault
  have e2 := methodAssignableTo
  have e3 := cAssignFault
  have e4 := cValueOfFault
  have hab := World.block_lt_of_cell? w _ ha
  have el := cElemV a ⟨b, 0, none⟩ (w.alloc (.cells #[.pointer (some ⟨1, 70, none⟩), .pointer (some a), .int .u64 150] 92)) (by rw [World.cell?_alloc_lt _ _ a hab]; exact ha)
  have st := cSet b (w.heap.size + 1) k i x y ((w.alloc (.cells #[.pointer (some ⟨1, 70, none⟩), .pointer (some a), .int .u64 150] 92)).alloc (.cells #[.int .i64 k, .int .i64 i] 67))
    (by rw [Below.heap_alloc _ _ _ (by simp; omega), Below.heap_alloc _ _ _ hb]; exact ht) (by have := heap_alloc_new (w.alloc (.cells #[.pointer (some ⟨1, 70, none⟩), .pointer (some a), .int .u64 150] 92)) (.cells #[.int .i64 k, .int .i64 i] 67); simpa using this)
  have hfin : Hid (((((w.setCell ⟨b, 0, none⟩ (.int .i64 k)).setCell ⟨b, 1, none⟩ (.int .i64 i)).alloc (.cells #[.pointer (some ⟨1, 70, none⟩), .pointer (some a), .int .u64 150] 92)).alloc (.cells #[.int .i64 k, .int .i64 i] 67)).heap[b]? = some (.cells #[.int .i64 k, .int .i64 i] 67 (0, 0))) := by
    show _ = _
    rw [Below.heap_alloc _ _ _ (by simp; omega), Below.heap_alloc _ _ _ (by simp; omega)]; exact heap_set2 (x := x) (y := y) ht
  clear ha ht
  go_enter Tryd.func47, Tryd.ntmps47
  go_wp2
  refine wp_loop_rounds 1 ?_
  rw [rounds_succ]
  go_wp2
  go_ret
  refine ⟨rfl, ?_, hfin.out⟩
  refine Below.alloc (Below.alloc (Below.setCell (Below.setCell (Below.refl _ _) ?_ _) ?_ _) ?_ _) ?_ _
  all_goals (try simp)
  all_goals omega

theorem as_num (k : Int) (t : Addr) (w : World) (hd : Door w) : Calls Tryd.prog 24 #[.iface 63 (.int .i64 k), .iface 70 (.pointer (some t))] w fun e w' => e = .returned (.bool false) ∧ Below w.heap.size w w' := by
  have e1 := cValueOfPtr
  have e2 := cTypePtr
  have e3 := cKindPtr
  have e4 := cKindFault
  have e5 := cElemType
  have e6 := cImplements
  have m1 := methodKind
  have m2 := methodElem
  have m3 := methodImplements
  have hlt := World.block_lt_of_cell? w _ hd
  have hlt' : 0 < w.heap.size := hlt
  have n8 := cIsNil ⟨w.heap.size, 0, none⟩ t ((w.alloc (.cells #[.pointer (some t)] 70)).alloc (.cells #[.pointer (some ⟨1, 70, none⟩), .pointer (some ⟨w.heap.size, 0, none⟩), .int .u64 150] 92)) (by simp)
  have hd2 : ((w.alloc (.cells #[.pointer (some t)] 70)).alloc (.cells #[.pointer (some ⟨1, 70, none⟩), .pointer (some ⟨w.heap.size, 0, none⟩), .int .u64 150] 92)).cell? ⟨0, 0, none⟩ = some (.iface 131 (.agg #[.pointer (some ⟨1, 32, none⟩)])) := by
    rw [World.cell?_alloc_lt _ _ _ (by simp <;> omega), World.cell?_alloc_lt _ _ _ hlt]; exact hd
  clear hd
  go_enter Tryd.func24, Tryd.ntmps24
  go_wp2_with (go_at_call 47; refine (asin_num _ _ _ _ _ _).mono ?_; rintro e w1 ⟨rfl, hb⟩)
  go_ret
  exact ⟨rfl, (((Below.refl _ _).alloc (Nat.le_refl _) _).alloc (by simp) _).trans (hb.mono (by simp; omega))⟩

set_option maxHeartbeats 1000000 in
/-- errors.As at an api.Fault: the variable (block b, made by the caller) holds it behind the call. -/
theorem as_plc (k i : Int) (b : Nat) (x y : Value) (w : World) (hd : Door w) (ht : w.heap[b]? = some (.cells #[x, y] 67 (0, 0))) :
    Calls Tryd.prog 24 #[.iface 67 (.agg #[.int .i64 k, .int .i64 i]), .iface 70 (.pointer (some ⟨b, 0, none⟩))] w
      fun e w' => e = .returned (.bool true) ∧ Below b w w' ∧ w'.heap[b]? = some (.cells #[.int .i64 k, .int .i64 i] 67 (0, 0)) := by
  have hb : b < w.heap.size := (Array.getElem?_eq_some_iff.1 ht).1
  have e1 := cValueOfPtr
  have e2 := cTypePtr
  have e3 := cKindPtr
  have e4 := cKindFault
  have e5 := cElemType
  have e6 := cImplements
  have m1 := methodKind
  have m2 := methodElem
  have m3 := methodImplements
  have hlt := World.block_lt_of_cell? w _ hd
  have hlt' : 0 < w.heap.size := hlt
  have n8 := cIsNil ⟨w.heap.size, 0, none⟩ ⟨b, 0, none⟩ ((w.alloc (.cells #[.pointer (some ⟨b, 0, none⟩)] 70)).alloc (.cells #[.pointer (some ⟨1, 70, none⟩), .pointer (some ⟨w.heap.size, 0, none⟩), .int .u64 150] 92)) (by simp)
  have hd2 : ((w.alloc (.cells #[.pointer (some ⟨b, 0, none⟩)] 70)).alloc (.cells #[.pointer (some ⟨1, 70, none⟩), .pointer (some ⟨w.heap.size, 0, none⟩), .int .u64 150] 92)).cell? ⟨0, 0, none⟩ = some (.iface 131 (.agg #[.pointer (some ⟨1, 32, none⟩)])) := by
    rw [World.cell?_alloc_lt _ _ _ (by simp <;> omega), World.cell?_alloc_lt _ _ _ hlt]; exact hd
  have ht2 : Hid (((w.alloc (.cells #[.pointer (some ⟨b, 0, none⟩)] 70)).alloc (.cells #[.pointer (some ⟨1, 70, none⟩), .pointer (some ⟨w.heap.size, 0, none⟩), .int .u64 150] 92)).heap[b]? = some (.cells #[x, y] 67 (0, 0))) := by
    show _ = _
    rw [Below.heap_alloc _ _ _ (by simp; omega), Below.heap_alloc _ _ _ hb]; exact ht
  clear hd ht
  go_enter Tryd.func24, Tryd.ntmps24
  go_wp2_with (go_at_call 47; go_loud (refine (asin_plc _ _ b x y ⟨w.heap.size, 0, none⟩ _ (by simp) ht2.out).mono ?_); rintro e w1 ⟨rfl, hb1, hc1⟩)
  go_ret
  exact ⟨rfl, (((Below.refl _ _).alloc (by omega) _).alloc (by simp; omega) _).trans hb1, hc1⟩
end Go.Proofs.YtdcnojjcffkmaaaDoor
