/-
  The program's two kinds of errors (a bare number; a number with its place): what errors.Is and errors.As answer of them.
  No conditions beyond those that each theorem states.
-/
import Derived.Test.YtdcnojjcffkmaaaDoorProg
import Derived.WalkKit
import Derived.LaidEql
import Derived.Stop.Asserts
import Derived.RowKitTokens
namespace Go.Proofs.YtdcnojjcffkmaaaDoor
open Go.RowKit Go.Extern.Stop Go.Stop Go.Extern

/-- An error of the program: none, a bare number, a number with a place. -/
inductive Er where
  | no : Er
  | num (k : Int) : Er
  | plc (k i : Int) : Er

def Er.val : Er → Value
  | .no => .nilIface
  | .num k => .iface 63 (.int .i64 k)
  | .plc k i => .iface 67 (.agg #[.int .i64 k, .int .i64 i])

/-- Is an error, or what it wraps, this number? -/
def Er.is : Er → Int → Bool
  | .no, _ => false
  | .num k, n => k == n
  | .plc k _, n => k == n

theorem run_equalIn_iface_int {P : Program} (w : World) (d : Nat) {ti tn : TypeId} {ms : Array (String × TypeId)} {i : TypeInfo} {k : IntKind} (a b : Int)
    (hi : P.underlying ti = some (.interface ms)) (hn : P.underlying tn = some (.int k)) (hinfo : P.info? tn = some i) (hcomp : i.comparable = true) :
    (Op.equalIn (d + 2) ti (.iface tn (.int k a)) (.iface tn (.int k b))).run P w = .ok (a == b) w := by
  simp [Op.equalIn, run_underlying hi, run_underlying hn, typeInfo, hinfo, hcomp]
/-- Two interface values of one integer type: as the numbers are. -/
theorem run_eql_iface_int {P : Program} (w : World) {ti tn : TypeId} {ms : Array (String × TypeId)} {i : TypeInfo} {k : IntKind} (a b : Int)
    (hi : P.underlying ti = some (.interface ms)) (hn : P.underlying tn = some (.int k)) (hinfo : P.info? tn = some i) (hcomp : i.comparable = true) :
    (binOp .eql ti (.iface tn (.int k a)) (.iface tn (.int k b))).run P w = .ok (.bool (a == b)) w := by
  simp only [binOp]
  simp [Op.equal, Op.maxDepth, run_equalIn_iface_int w 9998 a b hi hn hinfo hcomp]

theorem compE : (Tryd.prog.info? 63).map (·.comparable) = some true := by kernel_rfl
theorem eqErrno (w : World) (a b : Int) : (binOp .eql 32 (.iface 63 (.int .i64 a)) (.iface 63 (.int .i64 b))).run Tryd.prog w = .ok (.bool (a == b)) w := by
  obtain ⟨i, hi, hc⟩ := Option.map_eq_some_iff.1 compE
  exact run_eql_iface_int w a b Tryd.underlying32 Tryd.underlying63 hi hc
theorem eqFault (w : World) (x : Value) (b : Int) : (binOp .eql 32 (.iface 67 x) (.iface 63 (.int .i64 b))).run Tryd.prog w = .ok (.bool false) w := by
  exact run_eql_iface_types _ _ _ _ Tryd.underlying32 (by decide) w

/-! ### errors.Is -/
theorem noIsErrno (v : Value) (xT : TypeId) (w : World) : (Instr.typeAssert (.iface 63 v) xT 143 true).run Tryd.prog w = .ok (.tuple #[.nilIface, .bool false]) w := run_typeAssert_lacksB Tryd.underlying143 (by kernel_rfl) (by kernel_rfl) v xT w
theorem noIsFault (v : Value) (xT : TypeId) (w : World) : (Instr.typeAssert (.iface 67 v) xT 143 true).run Tryd.prog w = .ok (.tuple #[.nilIface, .bool false]) w := run_typeAssert_lacksB Tryd.underlying143 (by kernel_rfl) (by kernel_rfl) v xT w
theorem noUnwrapErrno (v : Value) (xT : TypeId) (w : World) : (Instr.typeAssert (.iface 63 v) xT 138 true).run Tryd.prog w = .ok (.tuple #[.nilIface, .bool false]) w := run_typeAssert_lacksB Tryd.underlying138 (by kernel_rfl) (by kernel_rfl) v xT w
theorem unwrapFault (v : Value) (xT : TypeId) (w : World) : (Instr.typeAssert (.iface 67 v) xT 138 true).run Tryd.prog w = .ok (.tuple #[.iface 67 v, .bool true]) w := run_typeAssert_hasB Tryd.underlying138 (by kernel_rfl) v xT w
theorem noUnwrapsErrno (v : Value) (xT : TypeId) (w : World) : (Instr.typeAssert (.iface 63 v) xT 140 true).run Tryd.prog w = .ok (.tuple #[.nilIface, .bool false]) w := run_typeAssert_lacksB Tryd.underlying140 (by kernel_rfl) (by kernel_rfl) v xT w
theorem noUnwrapsFault (v : Value) (xT : TypeId) (w : World) : (Instr.typeAssert (.iface 67 v) xT 140 true).run Tryd.prog w = .ok (.tuple #[.nilIface, .bool false]) w := run_typeAssert_lacksB Tryd.underlying140 (by kernel_rfl) (by kernel_rfl) v xT w

theorem typeOfErrno (v : Value) (w : World) : (ReflectliteType.typeOf #[.iface 63 v]).run Tryd.prog w = .ok (.iface 131 (.agg #[.pointer (some ⟨1, 63, none⟩)])) w := by kernel_rfl
theorem methodComparable (h : Value) (w : World) : (Go.method 277 131 (.agg #[h]) "Comparable").run Tryd.prog w = .ok (89, .agg #[h]) w := by kernel_rfl
theorem methodUnwrap (a b : Value) (w : World) : (Go.method 277 67 (.agg #[a, b]) "Unwrap").run Tryd.prog w = .ok (83, .agg #[a, b]) w := by kernel_rfl

theorem unwrap_any (k i : Int) (w : World) : Calls Tryd.prog 83 #[.agg #[.int .i64 k, .int .i64 i]] w fun e w' => e = .returned (.iface 63 (.int .i64 k)) ∧ Below w.heap.size w w' := by
  go_enter Tryd.func83, Tryd.ntmps83
  go_wp2
  go_ret
  exact ⟨rfl, (Below.refl _ _).alloc (Nat.le_refl _) _⟩

theorem ret_bool {a b : Bool} (h : a = b) : Ending.returned (.bool a) = .returned (.bool b) := by rw [h]
theorem ret_int {k : IntKind} {a b : Int} (h : a = b) : Ending.returned (.int k a) = .returned (.int k b) := by rw [h]

theorem is_no (n : Int) (w : World) : Calls Tryd.prog 43 #[.nilIface, .iface 63 (.int .i64 n)] w fun e w' => e = .returned (.bool false) ∧ Below w.heap.size w w' := by
  have h1 := run_eql_iface_nil_left (P := Tryd.prog) w 63 (.int .i64 n) Tryd.underlying32
  go_enter Tryd.func43, Tryd.ntmps43
  go_wp2
  go_ret
  exact ⟨rfl, (Below.refl _ _)⟩

theorem isin_num (k n : Int) (w : World) : Calls Tryd.prog 60 #[.iface 63 (.int .i64 k), .iface 63 (.int .i64 n), .bool true] w fun e w' => e = .returned (.bool (k == n)) ∧ Below w.heap.size w w' := by
  have e1 := eqErrno
  have e2 := noIsErrno
  have e3 := noUnwrapErrno
  have e4 := noUnwrapsErrno
  go_enter Tryd.func60, Tryd.ntmps60
  go_wp2
  refine wp_loop_rounds 1 ?_
  rw [rounds_succ]
  go_wp2
  all_goals go_ret
  all_goals exact ⟨ret_bool (by simp [*]), Below.refl _ _⟩

theorem isin_plc (k i n : Int) (w : World) : Calls Tryd.prog 60 #[.iface 67 (.agg #[.int .i64 k, .int .i64 i]), .iface 63 (.int .i64 n), .bool true] w fun e w' => e = .returned (.bool (k == n)) ∧ Below w.heap.size w w' := by
  have e1 := eqErrno
  have e2 := noIsErrno
  have e3 := noUnwrapErrno
  have e4 := noUnwrapsErrno
  have f1 := eqFault
  have f2 := noIsFault
  have f3 := unwrapFault
  have f4 := noUnwrapsFault
  have m1 := methodUnwrap
  go_enter Tryd.func60, Tryd.ntmps60
  go_wp2
  refine wp_loop_rounds 2 ?_
  rw [rounds_succ]
  go_wp2_with (go_at_call 83; refine (unwrap_any _ _ _).mono ?_; rintro e w1 ⟨rfl, hb⟩)
  rw [rounds_succ]
  go_wp2
  all_goals go_ret
  all_goals exact ⟨ret_bool (by simp [*]), by assumption⟩

theorem comparableErrno (w : World) : ((ReflectliteType.method fun t => do Rtype.noPackHeld "Comparable" t; pure (.bool (← typeInfo t).comparable)) #[.agg #[.pointer (some ⟨1, 63, none⟩)]]).run Tryd.prog w = .ok (.bool true) w := by kernel_rfl
theorem callTypeOfErrno (v : Value) (w : World) : (callFunc 59 #[.iface 63 v]).run Tryd.prog w = .ok (.value (.iface 131 (.agg #[.pointer (some ⟨1, 63, none⟩)]))) w := by
  rw [@run_callFunc_extern Tryd.prog 59 _ (ReflectliteType.typeOf) Tryd.func59 (by kernel_rfl) (by kernel_rfl) (by kernel_rfl) (by kernel_rfl), typeOfErrno]; rfl
theorem callComparableErrno (w : World) : (callFunc 89 #[.agg #[.pointer (some ⟨1, 63, none⟩)]]).run Tryd.prog w = .ok (.value (.bool true)) w := by
  rw [@run_callFunc_extern Tryd.prog 89 _ (ReflectliteType.method fun t => do Rtype.noPackHeld "Comparable" t; pure (.bool (← typeInfo t).comparable)) Tryd.func89 (by kernel_rfl) (by kernel_rfl) (by kernel_rfl) (by kernel_rfl), comparableErrno]; rfl
theorem is_num (k n : Int) (w : World) : Calls Tryd.prog 43 #[.iface 63 (.int .i64 k), .iface 63 (.int .i64 n)] w fun e w' => e = .returned (.bool (k == n)) ∧ Below w.heap.size w w' := by
  have e1 := callTypeOfErrno
  have e2 := methodComparable
  have e3 := callComparableErrno
  go_enter Tryd.func43, Tryd.ntmps43
  go_wp2_with (go_at_call 60; refine (isin_num _ _ _).mono ?_; rintro e w1 ⟨rfl, hb⟩)
  go_ret
  exact ⟨rfl, by assumption⟩
theorem is_plc (k i n : Int) (w : World) : Calls Tryd.prog 43 #[.iface 67 (.agg #[.int .i64 k, .int .i64 i]), .iface 63 (.int .i64 n)] w fun e w' => e = .returned (.bool (k == n)) ∧ Below w.heap.size w w' := by
  have e1 := callTypeOfErrno
  have e2 := methodComparable
  have e3 := callComparableErrno
  go_enter Tryd.func43, Tryd.ntmps43
  go_wp2_with (go_at_call 60; refine (isin_plc _ _ _ _).mono ?_; rintro e w1 ⟨rfl, hb⟩)
  go_ret
  exact ⟨rfl, by assumption⟩
/-- errors.Is of any of the program's errors at a bare number. -/
theorem is_any (x : Er) (n : Int) (w : World) : Calls Tryd.prog 43 #[x.val, .iface 63 (.int .i64 n)] w fun e w' => e = .returned (.bool (x.is n)) ∧ Below w.heap.size w w' := by
  cases x with
  | no => exact is_no n w
  | num k => exact is_num k n w
  | plc k i => exact is_plc k i n w
end Go.Proofs.YtdcnojjcffkmaaaDoor
