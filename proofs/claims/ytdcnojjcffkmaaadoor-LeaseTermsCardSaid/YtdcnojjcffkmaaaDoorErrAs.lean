/-
  errors.As at a variable of the program's errors with a place (a pointer to an api.Fault), for each of the program's errors.
  Conditions: the package-level variable errors.errorType holds the handle of the type error (it is tied to the program's text by the card).
-/
import Derived.Test.YtdcnojjcffkmaaaDoorErr
namespace Go.Proofs.YtdcnojjcffkmaaaDoor
open Go.RowKit Go.Extern.Stop Go.Stop Go.Extern

/-- The variable errors.errorType holds what start-up lays. -/
def Door (w : World) : Prop := w.cell? ⟨0, 0, none⟩ = some (.iface 131 (.agg #[.pointer (some ⟨1, 32, none⟩)]))
theorem Door.below {w w' : World} (h : Door w) (hb : Below w.heap.size w w') : Door w' := (hb.cell (World.block_lt_of_cell? w _ h)).trans h

theorem as_no (t : Value) (w : World) : Calls Tryd.prog 24 #[.nilIface, t] w fun e w' => e = .returned (.bool false) ∧ Below w.heap.size w w' := by
  go_enter Tryd.func24, Tryd.ntmps24
  go_wp2
  go_ret
  exact ⟨rfl, Below.refl _ _⟩

theorem cValueOfPtr (t : Addr) (w : World) : (callFunc 44 #[.iface 70 (.pointer (some t))]).run Tryd.prog w = .ok (.value (.agg #[.pointer (some ⟨1, 70, none⟩), .pointer (some ⟨w.heap.size, 0, none⟩), .int .u64 150])) (w.alloc (.cells #[.pointer (some t)] 70)) := by
  rw [@run_callFunc_extern Tryd.prog 44 _ (fun args => ReflectliteValue.unpack (args.getD 0 (.tuple #[]))) Tryd.func44 (by kernel_rfl) (by kernel_rfl) (by kernel_rfl) (by kernel_rfl)]; kernel_rfl
theorem cValueOfFault (k i : Int) (w : World) : (callFunc 44 #[.iface 67 (.agg #[.int .i64 k, .int .i64 i])]).run Tryd.prog w = .ok (.value (.agg #[.pointer (some ⟨1, 67, none⟩), .pointer (some ⟨w.heap.size, 0, none⟩), .int .u64 153])) (w.alloc (.cells #[.int .i64 k, .int .i64 i] 67)) := by
  rw [@run_callFunc_extern Tryd.prog 44 _ (fun args => ReflectliteValue.unpack (args.getD 0 (.tuple #[]))) Tryd.func44 (by kernel_rfl) (by kernel_rfl) (by kernel_rfl) (by kernel_rfl)]; kernel_rfl
theorem cTypePtr0 (a : Addr) (w : World) : (((ReflectliteValue.methodAny (ReflectliteValue.valueError "reflectlite.Value.Type" 0) (fun t _ _ _ => ReflectliteType.toType t)) #[.agg #[.pointer (some ⟨1, 70, none⟩), .pointer (some a), .int .u64 150]])).run Tryd.prog w = .ok (.iface 131 (.agg #[.pointer (some ⟨1, 70, none⟩)])) (w) := by kernel_rfl
theorem cTypePtr (a : Addr) (w : World) : (callFunc 45 #[.agg #[.pointer (some ⟨1, 70, none⟩), .pointer (some a), .int .u64 150]]).run Tryd.prog w = .ok (.value (.iface 131 (.agg #[.pointer (some ⟨1, 70, none⟩)]))) (w) := by
  rw [@run_callFunc_extern Tryd.prog 45 _ (ReflectliteValue.methodAny (ReflectliteValue.valueError "reflectlite.Value.Type" 0) (fun t _ _ _ => ReflectliteType.toType t)) Tryd.func45 (by kernel_rfl) (by kernel_rfl) (by kernel_rfl) (by kernel_rfl), cTypePtr0]; rfl
theorem cKindPtr  (w : World) : (callFunc 78 #[.pointer (some ⟨1, 70, none⟩)]).run Tryd.prog w = .ok (.value (.int .u8 22)) (w) := by
  rw [@run_callFunc_extern Tryd.prog 78 _ (ReflectliteType.abiMethod fun t => do pure (.int .u8 (← Rtype.kind t))) Tryd.func78 (by kernel_rfl) (by kernel_rfl) (by kernel_rfl) (by kernel_rfl)]; kernel_rfl
theorem cKindFault  (w : World) : (callFunc 78 #[.pointer (some ⟨1, 67, none⟩)]).run Tryd.prog w = .ok (.value (.int .u8 25)) (w) := by
  rw [@run_callFunc_extern Tryd.prog 78 _ (ReflectliteType.abiMethod fun t => do pure (.int .u8 (← Rtype.kind t))) Tryd.func78 (by kernel_rfl) (by kernel_rfl) (by kernel_rfl) (by kernel_rfl)]; kernel_rfl
theorem cElemType0  (w : World) : (((ReflectliteType.method ReflectliteType.elem) #[.agg #[.pointer (some ⟨1, 70, none⟩)]])).run Tryd.prog w = .ok (.iface 131 (.agg #[.pointer (some ⟨1, 67, none⟩)])) (w) := by kernel_rfl
theorem cElemType  (w : World) : (callFunc 90 #[.agg #[.pointer (some ⟨1, 70, none⟩)]]).run Tryd.prog w = .ok (.value (.iface 131 (.agg #[.pointer (some ⟨1, 67, none⟩)]))) (w) := by
  rw [@run_callFunc_extern Tryd.prog 90 _ (ReflectliteType.method ReflectliteType.elem) Tryd.func90 (by kernel_rfl) (by kernel_rfl) (by kernel_rfl) (by kernel_rfl), cElemType0]; rfl
theorem cImplements0  (w : World) : (((ReflectliteType.relation "Implements" ReflectliteType.implements_) #[.agg #[.pointer (some ⟨1, 67, none⟩)], .iface 131 (.agg #[.pointer (some ⟨1, 32, none⟩)])])).run Tryd.prog w = .ok (.bool true) (w) := by kernel_rfl
theorem cImplements  (w : World) : (callFunc 91 #[.agg #[.pointer (some ⟨1, 67, none⟩)], .iface 131 (.agg #[.pointer (some ⟨1, 32, none⟩)])]).run Tryd.prog w = .ok (.value (.bool true)) (w) := by
  rw [@run_callFunc_extern Tryd.prog 91 _ (ReflectliteType.relation "Implements" ReflectliteType.implements_) Tryd.func91 (by kernel_rfl) (by kernel_rfl) (by kernel_rfl) (by kernel_rfl), cImplements0]; rfl
theorem cTypeOfFault0 (v : Value) (w : World) : (((ReflectliteType.typeOf) #[.iface 67 v])).run Tryd.prog w = .ok (.iface 131 (.agg #[.pointer (some ⟨1, 67, none⟩)])) (w) := by kernel_rfl
theorem cTypeOfFault (v : Value) (w : World) : (callFunc 59 #[.iface 67 v]).run Tryd.prog w = .ok (.value (.iface 131 (.agg #[.pointer (some ⟨1, 67, none⟩)]))) (w) := by
  rw [@run_callFunc_extern Tryd.prog 59 _ (ReflectliteType.typeOf) Tryd.func59 (by kernel_rfl) (by kernel_rfl) (by kernel_rfl) (by kernel_rfl), cTypeOfFault0]; rfl
theorem cAssignErrno0  (w : World) : (((ReflectliteType.relation "AssignableTo" ReflectliteType.assignableTo) #[.agg #[.pointer (some ⟨1, 63, none⟩)], .iface 131 (.agg #[.pointer (some ⟨1, 67, none⟩)])])).run Tryd.prog w = .ok (.bool false) (w) := by kernel_rfl
theorem cAssignErrno  (w : World) : (callFunc 88 #[.agg #[.pointer (some ⟨1, 63, none⟩)], .iface 131 (.agg #[.pointer (some ⟨1, 67, none⟩)])]).run Tryd.prog w = .ok (.value (.bool false)) (w) := by
  rw [@run_callFunc_extern Tryd.prog 88 _ (ReflectliteType.relation "AssignableTo" ReflectliteType.assignableTo) Tryd.func88 (by kernel_rfl) (by kernel_rfl) (by kernel_rfl) (by kernel_rfl), cAssignErrno0]; rfl
theorem cAssignFault0  (w : World) : (((ReflectliteType.relation "AssignableTo" ReflectliteType.assignableTo) #[.agg #[.pointer (some ⟨1, 67, none⟩)], .iface 131 (.agg #[.pointer (some ⟨1, 67, none⟩)])])).run Tryd.prog w = .ok (.bool true) (w) := by kernel_rfl
theorem cAssignFault  (w : World) : (callFunc 88 #[.agg #[.pointer (some ⟨1, 67, none⟩)], .iface 131 (.agg #[.pointer (some ⟨1, 67, none⟩)])]).run Tryd.prog w = .ok (.value (.bool true)) (w) := by
  rw [@run_callFunc_extern Tryd.prog 88 _ (ReflectliteType.relation "AssignableTo" ReflectliteType.assignableTo) Tryd.func88 (by kernel_rfl) (by kernel_rfl) (by kernel_rfl) (by kernel_rfl), cAssignFault0]; rfl
theorem methodKind (h : Value) (w : World) : (Go.method 277 131 (.agg #[h]) "Kind").run Tryd.prog w = .ok (78, h) w := by kernel_rfl
theorem methodElem (h : Value) (w : World) : (Go.method 277 131 (.agg #[h]) "Elem").run Tryd.prog w = .ok (90, .agg #[h]) w := by kernel_rfl
theorem methodImplements (h : Value) (w : World) : (Go.method 277 131 (.agg #[h]) "Implements").run Tryd.prog w = .ok (91, .agg #[h]) w := by kernel_rfl
theorem methodAssignableTo (h : Value) (w : World) : (Go.method 277 131 (.agg #[h]) "AssignableTo").run Tryd.prog w = .ok (88, .agg #[h]) w := by kernel_rfl

theorem rlm (z : Sem Value) (f : TypeId → Addr → Nat → Nat → Sem Value) (v : Value) :
    ReflectliteValue.method z f #[v] = (do match ← ReflectliteValue.parts v with | none => z | some (t, a, fl) => f t a fl (fl % 32)) := rfl
theorem partsPtr (a : Addr) (w : World) : (ReflectliteValue.parts (.agg #[.pointer (some ⟨1, 70, none⟩), .pointer (some a), .int .u64 150])).run Tryd.prog w = .ok (some (70, a, 150)) w := by kernel_rfl
theorem cIsNil (a t : Addr) (W : World) (ha : W.cell? a = some (.pointer (some t))) : (callFunc 46 #[.agg #[.pointer (some ⟨1, 70, none⟩), .pointer (some a), .int .u64 150]]).run Tryd.prog W = .ok (.value (.bool false)) W := by
  rw [@run_callFunc_extern Tryd.prog 46 _ (ReflectliteValue.method (ReflectliteValue.valueError "reflectlite.Value.IsNil" 0) ReflectliteValue.isNil) Tryd.func46 (by kernel_rfl) (by kernel_rfl) (by kernel_rfl) (by kernel_rfl), rlm]
  simp only [Sem.run_bind, partsPtr, Result.andThen]
  simp [ReflectliteValue.isNil, loadVar, isAgg, underlying, Tryd.underlying70, ha, Result.andThen]
theorem elemOfPtr (w : World) : (Rtype.elem? 70).run Tryd.prog w = .ok (some 67) w := by kernel_rfl
theorem mkFault (p : Addr) (w : World) : (ReflectliteValue.mk 67 p ReflectliteValue.flagAddr).run Tryd.prog w = .ok (.agg #[.pointer (some ⟨1, 67, none⟩), .pointer (some p), .int .u64 409]) w := by kernel_rfl
theorem cElemV (a t : Addr) (W : World) (ha : W.cell? a = some (.pointer (some t))) : (callFunc 61 #[.agg #[.pointer (some ⟨1, 70, none⟩), .pointer (some a), .int .u64 150]]).run Tryd.prog W = .ok (.value (.agg #[.pointer (some ⟨1, 67, none⟩), .pointer (some t), .int .u64 409])) W := by
  rw [@run_callFunc_extern Tryd.prog 61 _ (ReflectliteValue.method (ReflectliteValue.valueError "reflectlite.Value.Elem" 0) ReflectliteValue.elem) Tryd.func61 (by kernel_rfl) (by kernel_rfl) (by kernel_rfl) (by kernel_rfl), rlm]
  simp only [Sem.run_bind, partsPtr, Result.andThen]
  simp [ReflectliteValue.elem, loadVar, isAgg, underlying, Tryd.underlying70, ha, Result.andThen, elemOfPtr, mkFault]

theorem rls (v x : Value) : ReflectliteValue.set #[v, x] = (do
    let (some (dst, a, fl), some (src, b, _)) := (← ReflectliteValue.parts v, ← ReflectliteValue.parts x)
      | unsupported (.noEntry "extern/(internal/reflectlite.Value).Set.zeroValue")
    if fl / ReflectliteValue.flagAddr % 2 == 0 then unsupported (.noEntry "extern/(internal/reflectlite.Value).Set.unaddressable")
    let val ← loadVar src b
    if ← Rtype.directlyAssignable dst src then storeVar dst a val
    else if ← Rtype.implements dst src then
      if (← Rtype.kind src) == 20 then
        match val with
        | .nilIface => unsupported (.noEntry "extern/reflectlite: a nil value of one interface type handed on as a value of another")
        | _ => storeVar dst a val
      else storeVar dst a (.iface src val)
    else panicString ("reflectlite.Set: value of type " ++ (← Rtype.spelt src) ++ " is not assignable to type " ++ (← Rtype.spelt dst))
    pure (.tuple #[])) := rfl
theorem heap_set2 {W : World} {b : Nat} {x y u v : Value} {T : TypeId} (ht : W.heap[b]? = some (.cells #[x, y] T (0, 0))) : ((W.setCell ⟨b, 0, none⟩ u).setCell ⟨b, 1, none⟩ v).heap[b]? = some (.cells #[u, v] T (0, 0)) := by
  simp [World.setCell, Array.getElem?_modify, ht]
theorem partsA (a : Addr) (w : World) : (ReflectliteValue.parts (.agg #[.pointer (some ⟨1, 67, none⟩), .pointer (some a), .int .u64 409])).run Tryd.prog w = .ok (some (67, a, 409)) w := by kernel_rfl
theorem partsB (a : Addr) (w : World) : (ReflectliteValue.parts (.agg #[.pointer (some ⟨1, 67, none⟩), .pointer (some a), .int .u64 153])).run Tryd.prog w = .ok (some (67, a, 153)) w := by kernel_rfl
theorem directFault (w : World) : (Rtype.directlyAssignable 67 67).run Tryd.prog w = .ok true w := by kernel_rfl
theorem sizeFault (w : World) : (sizeOf 67).run Tryd.prog w = .ok 2 w := by kernel_rfl
theorem isAggFault (w : World) : (isAgg 67).run Tryd.prog w = .ok true w := by kernel_rfl
theorem cSet (b g : Nat) (k i : Int) (x y : Value) (W : World) (ht : W.heap[b]? = some (.cells #[x, y] 67 (0, 0))) (hs : W.heap[g]? = some (.cells #[.int .i64 k, .int .i64 i] 67 (0, 0))) :
    (callFunc 62 #[.agg #[.pointer (some ⟨1, 67, none⟩), .pointer (some ⟨b, 0, none⟩), .int .u64 409], .agg #[.pointer (some ⟨1, 67, none⟩), .pointer (some ⟨g, 0, none⟩), .int .u64 153]]).run Tryd.prog W = .ok (.value (.tuple #[])) ((W.setCell ⟨b, 0, none⟩ (.int .i64 k)).setCell ⟨b, 1, none⟩ (.int .i64 i)) := by
  have c0 : W.cell? ⟨g, 0, none⟩ = some (.int .i64 k) := by simp [World.cell?, hs]
  have c1 : W.cell? ⟨g, 1, none⟩ = some (.int .i64 i) := by simp [World.cell?, hs]
  have d0 : W.cell? ⟨b, 0, none⟩ = some x := by simp [World.cell?, ht]
  have d1 : W.cell? ⟨b, 1, none⟩ = some y := by simp [World.cell?, ht]
  have f0 : W.frozen? ⟨b, 0, none⟩ = false := by simp [World.frozen?, ht]
  have f1 : W.frozen? ⟨b, 1, none⟩ = false := by simp [World.frozen?, ht]
  rw [@run_callFunc_extern Tryd.prog 62 _ (ReflectliteValue.set) Tryd.func62 (by kernel_rfl) (by kernel_rfl) (by kernel_rfl) (by kernel_rfl), rls]
  simp only [Sem.run_bind, partsA, partsB, Result.andThen]
  simp [ReflectliteValue.flagAddr, loadVar, loadCells, loadCellsFrom, Result.andThen, directFault, storeVar, Value.cells, storeCells, Addr.add, c0, c1]
  rw [run_store Tryd.prog W ⟨b, 0, none⟩ _ _ (by rfl)]
  simp only [d0, f0]
  rw [if_neg (by simp)]
  simp only []
  rw [run_store Tryd.prog _ ⟨b, 1, none⟩ _ _ (by rfl)]
  simp [World.cell?_setCell_other, d1, f1]
end Go.Proofs.YtdcnojjcffkmaaaDoor
