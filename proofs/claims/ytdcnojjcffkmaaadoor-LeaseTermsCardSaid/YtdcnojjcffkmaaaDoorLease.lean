/-
  lease.Over, lease.Holds, lease.Take at objects whose lists are nil: what each answers; nothing that was there is changed.
  Conditions: as each theorem states them.
-/
import Derived.Test.YtdcnojjcffkmaaaDoorErrNum
import Derived.Test.YtdcnojjcffkmaaaDoorRow
import Derived.Lib.BufferMore
import Derived.StillTailTactics
namespace Go.Proofs.YtdcnojjcffkmaaaDoor
open Go.RowKit Go.Extern.Stop Go.Stop Go.Extern
set_option linter.unusedVariables false
set_option linter.unusedSimpArgs false
set_option maxRecDepth 100000
attribute [local go_sem] heap_alloc_at heap_alloc_past setRow_alloc_at setRow_alloc_past

/-- An object's cells: 32, one value each. -/
structure ObjC (cs : Array Value) : Prop where
  size : cs.size = 32
  one : ∀ u ∈ cs.toList, u.oneCell' = true
/-- The object without a field set. -/
def zob : Array Value := #[.int .i64 0, .string ⟨#[]⟩, .int .i64 0, .int .i64 0, .slice none 0 0, .int .i64 0, .int .i64 0, .bool false, .bool false, .bool false, .int .i64 0, .string ⟨#[]⟩, .string ⟨#[]⟩, .string ⟨#[]⟩, .int .i64 0, .bool false, .bool false, .int .i64 0, .int .i64 0, .string ⟨#[]⟩, .int .i64 0, .int .i64 0, .int .i64 0, .int .i64 0, .int .i64 0, .bool false, .int .u64 0, .slice none 0 0, .int .i64 0, .string ⟨#[]⟩, .int .i64 0, .int .i64 0]
theorem zob_objC : ObjC zob := ⟨rfl, by decide⟩
theorem ObjC.set {cs : Array Value} (h : ObjC cs) (i : Nat) {v : Value} (hv : v.oneCell' = true) : ObjC (cs.setIfInBounds i v) := by
  refine ⟨by simp [h.size], fun u hu => ?_⟩
  rw [Array.toList_setIfInBounds] at hu
  rcases List.mem_or_eq_of_mem_set hu with hu | rfl
  · exact h.one u hu
  · exact hv
theorem sizeObj : (Tryd.prog.info? 27).map (·.size) = some 32 := by kernel_rfl
theorem ObjC.info {cs : Array Value} (h : ObjC cs) : (Tryd.prog.info? 27).map (·.size) = some cs.size := by rw [h.size]; exact sizeObj
theorem build_zob (w : World) : (Instr.build 27 #[]).run Tryd.prog w = .ok (.agg zob) w := by kernel_rfl

theorem alloc_zob (w : World) : (Instr.alloc 27 true (.tuple #[])).run Tryd.prog w = .ok (.pointer (some ⟨w.heap.size, 0, none⟩)) (w.alloc (.cells zob 27)) := by kernel_rfl

theorem over_any (cs : Array Value) (un now : Int) (w : World) (h31 : cs[31]? = some (.int .i64 un)) :
    Calls Tryd.prog 14 #[.agg cs, .int .i64 now] w fun e w' => e = .returned (.bool (decide (un ≤ now))) ∧ w' = w.alloc (.cells cs 27) := by
  go_enter Tryd.func14, Tryd.ntmps14
  go_wp2
  go_ret
  exact ⟨rfl, rfl⟩

theorem holds_yes (cs : Array Value) (hd : ByteArray) (tm : Int) (w : World) (h29 : cs[29]? = some (.string hd)) (h30 : cs[30]? = some (.int .i64 tm)) (hh : hd.toList.isEmpty = false) :
    Calls Tryd.prog 12 #[.agg cs, .string hd, .int .i64 tm] w fun e w' => e = .returned (.bool true) ∧ w' = w.alloc (.cells cs 27) := by
  go_enter Tryd.func12, Tryd.ntmps12
  go_wp2
  all_goals go_ret
  all_goals exact ⟨ret_bool (by simp_all), rfl⟩

theorem holds_no (cs : Array Value) (hd : ByteArray) (tm : Int) (holder : ByteArray) (term : Int) (w : World) (h29 : cs[29]? = some (.string hd)) (h30 : cs[30]? = some (.int .i64 tm))
    (hh : holder.toList.isEmpty = true ∨ (hd.toList == holder.toList) = false ∨ ¬ tm = term) :
    Calls Tryd.prog 12 #[.agg cs, .string holder, .int .i64 term] w fun e w' => e = .returned (.bool false) ∧ w' = w.alloc (.cells cs 27) := by
  have HH := Lib.hid hh
  clear hh
  go_enter Tryd.func12, Tryd.ntmps12
  go_wp2
  all_goals go_ret
  all_goals refine ⟨ret_bool ?_, rfl⟩
  all_goals (have hh := HH.out; simp_all)

theorem clone_nil (w : World) : Calls Tryd.prog 22 #[.slice none 0 0] w fun e w' => e = .returned (.slice none 0 0) ∧ w' = w := by
  have h1 := fun W => Lib.run_eql_slice_nil_nil (P := Tryd.prog) W 0 0 Tryd.underlying22
  go_enter Tryd.func22, Tryd.ntmps22
  go_wp2
  go_ret
  exact ⟨rfl, rfl⟩

set_option maxHeartbeats 4000000 in
theorem take_name (cs : Array Value) (hd : ByteArray) (tm un : Int) (holder : ByteArray) (now : Int) (w : World) (hO : ObjC cs) (h4 : cs[4]? = some (.slice none 0 0)) (h27 : cs[27]? = some (.slice none 0 0)) (h29 : cs[29]? = some (.string hd)) (h30 : cs[30]? = some (.int .i64 tm)) (h31 : cs[31]? = some (.int .i64 un))
    (hh : holder.toList.isEmpty = true) :
    Calls Tryd.prog 8 #[.agg cs, .string holder, .int .i64 now] w fun e w' => e = .returned (.tuple #[.agg zob, .iface 63 (.int .i64 8)]) ∧ Below w.heap.size w w' := by
  go_enter Tryd.func8, Tryd.ntmps8
  go_wp2_with (first | (go_at_call 14; refine (over_any _ _ _ _ (by assumption)).mono ?_; rintro e w1 ⟨rfl, rfl⟩) | (go_at_call 22; refine (clone_nil _).mono ?_; rintro e w1 ⟨rfl, rfl⟩) | ((first | (with_reducible apply ldRow 27 Tryd.underlying27 rfl) | ((with_reducible apply ldRowG 27 Tryd.underlying27 rfl); (case hw => rfl))); (case hx => rfl); (case hg => ((try simp only [heap_drew]); first | ((with_reducible refine heap_alloc_at _ _ ?_) <;> (simp <;> omega)) | ((with_reducible refine (heap_alloc_past _ _ ?_).trans (heap_alloc_at _ _ ?_)) <;> (simp <;> omega)) | ((with_reducible refine (heap_alloc_past _ _ ?_).trans ((heap_alloc_past _ _ ?_).trans (heap_alloc_at _ _ ?_))) <;> (simp <;> omega)) | ((with_reducible refine (heap_alloc_past _ _ ?_).trans ((heap_alloc_past _ _ ?_).trans ((heap_alloc_past _ _ ?_).trans (heap_alloc_at _ _ ?_)))) <;> (simp <;> omega)))); (case hi => (refine sizeObj.trans (congrArg some ?_); (first | (simp [hO.size, zob_objC.size]; done) | rfl)))) | ((with_reducible apply stRow 27); (case hx => rfl); (case hy => rfl); (case hg => ((try simp only [heap_drew]); first | ((with_reducible refine heap_alloc_at _ _ ?_) <;> (simp <;> omega)) | ((with_reducible refine (heap_alloc_past _ _ ?_).trans (heap_alloc_at _ _ ?_)) <;> (simp <;> omega)) | ((with_reducible refine (heap_alloc_past _ _ ?_).trans ((heap_alloc_past _ _ ?_).trans (heap_alloc_at _ _ ?_))) <;> (simp <;> omega)) | ((with_reducible refine (heap_alloc_past _ _ ?_).trans ((heap_alloc_past _ _ ?_).trans ((heap_alloc_past _ _ ?_).trans (heap_alloc_at _ _ ?_)))) <;> (simp <;> omega)))); (case hs => (first | (simp [zob_objC.size, hO.size]; done) | exact zob_objC.size.trans zob_objC.size.symm)); (case hi => (refine sizeObj.trans (congrArg some ?_); (first | (simp [hO.size, zob_objC.size]; done) | rfl))); (case h1 => (first | (with_reducible exact hF.one) | (with_reducible exact hO.one) | exact zob_objC.one))) )
  all_goals ((apply retRowTmp 27 Tryd.underlying27 rfl (fr := (0, 0))); (case hf => rfl); (case hp => rfl); (case hv => rfl); (case hg => ((try simp only [heap_drew]); first | ((with_reducible refine heap_alloc_at _ _ ?_) <;> (simp <;> omega)) | ((with_reducible refine (heap_alloc_past _ _ ?_).trans (heap_alloc_at _ _ ?_)) <;> (simp <;> omega)) | ((with_reducible refine (heap_alloc_past _ _ ?_).trans ((heap_alloc_past _ _ ?_).trans (heap_alloc_at _ _ ?_))) <;> (simp <;> omega)) | ((with_reducible refine (heap_alloc_past _ _ ?_).trans ((heap_alloc_past _ _ ?_).trans ((heap_alloc_past _ _ ?_).trans (heap_alloc_at _ _ ?_)))) <;> (simp <;> omega)))); (case hi => (refine sizeObj.trans (congrArg some ?_); (first | (simp [hO.size, zob_objC.size]; done) | rfl))); (case hdf => rfl); exact ⟨rfl, (by repeat (first | exact Below.refl _ _ | (refine Below.alloc ?_ (by simp <;> omega) _)))⟩)

set_option maxHeartbeats 4000000 in
theorem take_early (cs : Array Value) (hd : ByteArray) (tm un : Int) (holder : ByteArray) (now : Int) (w : World) (hO : ObjC cs) (h4 : cs[4]? = some (.slice none 0 0)) (h27 : cs[27]? = some (.slice none 0 0)) (h29 : cs[29]? = some (.string hd)) (h30 : cs[30]? = some (.int .i64 tm)) (h31 : cs[31]? = some (.int .i64 un))
    (hh : holder.toList.isEmpty = false) (hn : now < 0) :
    Calls Tryd.prog 8 #[.agg cs, .string holder, .int .i64 now] w fun e w' => e = .returned (.tuple #[.agg zob, .iface 63 (.int .i64 1)]) ∧ Below w.heap.size w w' := by
  go_enter Tryd.func8, Tryd.ntmps8
  go_wp2_with (first | (go_at_call 14; refine (over_any _ _ _ _ (by assumption)).mono ?_; rintro e w1 ⟨rfl, rfl⟩) | (go_at_call 22; refine (clone_nil _).mono ?_; rintro e w1 ⟨rfl, rfl⟩) | ((first | (with_reducible apply ldRow 27 Tryd.underlying27 rfl) | ((with_reducible apply ldRowG 27 Tryd.underlying27 rfl); (case hw => rfl))); (case hx => rfl); (case hg => ((try simp only [heap_drew]); first | ((with_reducible refine heap_alloc_at _ _ ?_) <;> (simp <;> omega)) | ((with_reducible refine (heap_alloc_past _ _ ?_).trans (heap_alloc_at _ _ ?_)) <;> (simp <;> omega)) | ((with_reducible refine (heap_alloc_past _ _ ?_).trans ((heap_alloc_past _ _ ?_).trans (heap_alloc_at _ _ ?_))) <;> (simp <;> omega)) | ((with_reducible refine (heap_alloc_past _ _ ?_).trans ((heap_alloc_past _ _ ?_).trans ((heap_alloc_past _ _ ?_).trans (heap_alloc_at _ _ ?_)))) <;> (simp <;> omega)))); (case hi => (refine sizeObj.trans (congrArg some ?_); (first | (simp [hO.size, zob_objC.size]; done) | rfl)))) | ((with_reducible apply stRow 27); (case hx => rfl); (case hy => rfl); (case hg => ((try simp only [heap_drew]); first | ((with_reducible refine heap_alloc_at _ _ ?_) <;> (simp <;> omega)) | ((with_reducible refine (heap_alloc_past _ _ ?_).trans (heap_alloc_at _ _ ?_)) <;> (simp <;> omega)) | ((with_reducible refine (heap_alloc_past _ _ ?_).trans ((heap_alloc_past _ _ ?_).trans (heap_alloc_at _ _ ?_))) <;> (simp <;> omega)) | ((with_reducible refine (heap_alloc_past _ _ ?_).trans ((heap_alloc_past _ _ ?_).trans ((heap_alloc_past _ _ ?_).trans (heap_alloc_at _ _ ?_)))) <;> (simp <;> omega)))); (case hs => (first | (simp [zob_objC.size, hO.size]; done) | exact zob_objC.size.trans zob_objC.size.symm)); (case hi => (refine sizeObj.trans (congrArg some ?_); (first | (simp [hO.size, zob_objC.size]; done) | rfl))); (case h1 => (first | (with_reducible exact hF.one) | (with_reducible exact hO.one) | exact zob_objC.one))) )
  all_goals ((apply retRowTmp 27 Tryd.underlying27 rfl (fr := (0, 0))); (case hf => rfl); (case hp => rfl); (case hv => rfl); (case hg => ((try simp only [heap_drew]); first | ((with_reducible refine heap_alloc_at _ _ ?_) <;> (simp <;> omega)) | ((with_reducible refine (heap_alloc_past _ _ ?_).trans (heap_alloc_at _ _ ?_)) <;> (simp <;> omega)) | ((with_reducible refine (heap_alloc_past _ _ ?_).trans ((heap_alloc_past _ _ ?_).trans (heap_alloc_at _ _ ?_))) <;> (simp <;> omega)) | ((with_reducible refine (heap_alloc_past _ _ ?_).trans ((heap_alloc_past _ _ ?_).trans ((heap_alloc_past _ _ ?_).trans (heap_alloc_at _ _ ?_)))) <;> (simp <;> omega)))); (case hi => (refine sizeObj.trans (congrArg some ?_); (first | (simp [hO.size, zob_objC.size]; done) | rfl))); (case hdf => rfl); exact ⟨rfl, (by repeat (first | exact Below.refl _ _ | (refine Below.alloc ?_ (by simp <;> omega) _)))⟩)

set_option maxHeartbeats 4000000 in
theorem take_late (cs : Array Value) (hd : ByteArray) (tm un : Int) (holder : ByteArray) (now : Int) (w : World) (hO : ObjC cs) (h4 : cs[4]? = some (.slice none 0 0)) (h27 : cs[27]? = some (.slice none 0 0)) (h29 : cs[29]? = some (.string hd)) (h30 : cs[30]? = some (.int .i64 tm)) (h31 : cs[31]? = some (.int .i64 un))
    (hh : holder.toList.isEmpty = false) (hn : 4611686018427387904 < now) :
    Calls Tryd.prog 8 #[.agg cs, .string holder, .int .i64 now] w fun e w' => e = .returned (.tuple #[.agg zob, .iface 63 (.int .i64 1)]) ∧ Below w.heap.size w w' := by
  have hn0 : 0 ≤ now := by omega
  go_enter Tryd.func8, Tryd.ntmps8
  go_wp2_with (first | (go_at_call 14; refine (over_any _ _ _ _ (by assumption)).mono ?_; rintro e w1 ⟨rfl, rfl⟩) | (go_at_call 22; refine (clone_nil _).mono ?_; rintro e w1 ⟨rfl, rfl⟩) | ((first | (with_reducible apply ldRow 27 Tryd.underlying27 rfl) | ((with_reducible apply ldRowG 27 Tryd.underlying27 rfl); (case hw => rfl))); (case hx => rfl); (case hg => ((try simp only [heap_drew]); first | ((with_reducible refine heap_alloc_at _ _ ?_) <;> (simp <;> omega)) | ((with_reducible refine (heap_alloc_past _ _ ?_).trans (heap_alloc_at _ _ ?_)) <;> (simp <;> omega)) | ((with_reducible refine (heap_alloc_past _ _ ?_).trans ((heap_alloc_past _ _ ?_).trans (heap_alloc_at _ _ ?_))) <;> (simp <;> omega)) | ((with_reducible refine (heap_alloc_past _ _ ?_).trans ((heap_alloc_past _ _ ?_).trans ((heap_alloc_past _ _ ?_).trans (heap_alloc_at _ _ ?_)))) <;> (simp <;> omega)))); (case hi => (refine sizeObj.trans (congrArg some ?_); (first | (simp [hO.size, zob_objC.size]; done) | rfl)))) | ((with_reducible apply stRow 27); (case hx => rfl); (case hy => rfl); (case hg => ((try simp only [heap_drew]); first | ((with_reducible refine heap_alloc_at _ _ ?_) <;> (simp <;> omega)) | ((with_reducible refine (heap_alloc_past _ _ ?_).trans (heap_alloc_at _ _ ?_)) <;> (simp <;> omega)) | ((with_reducible refine (heap_alloc_past _ _ ?_).trans ((heap_alloc_past _ _ ?_).trans (heap_alloc_at _ _ ?_))) <;> (simp <;> omega)) | ((with_reducible refine (heap_alloc_past _ _ ?_).trans ((heap_alloc_past _ _ ?_).trans ((heap_alloc_past _ _ ?_).trans (heap_alloc_at _ _ ?_)))) <;> (simp <;> omega)))); (case hs => (first | (simp [zob_objC.size, hO.size]; done) | exact zob_objC.size.trans zob_objC.size.symm)); (case hi => (refine sizeObj.trans (congrArg some ?_); (first | (simp [hO.size, zob_objC.size]; done) | rfl))); (case h1 => (first | (with_reducible exact hF.one) | (with_reducible exact hO.one) | exact zob_objC.one))) )
  all_goals ((apply retRowTmp 27 Tryd.underlying27 rfl (fr := (0, 0))); (case hf => rfl); (case hp => rfl); (case hv => rfl); (case hg => ((try simp only [heap_drew]); first | ((with_reducible refine heap_alloc_at _ _ ?_) <;> (simp <;> omega)) | ((with_reducible refine (heap_alloc_past _ _ ?_).trans (heap_alloc_at _ _ ?_)) <;> (simp <;> omega)) | ((with_reducible refine (heap_alloc_past _ _ ?_).trans ((heap_alloc_past _ _ ?_).trans (heap_alloc_at _ _ ?_))) <;> (simp <;> omega)) | ((with_reducible refine (heap_alloc_past _ _ ?_).trans ((heap_alloc_past _ _ ?_).trans ((heap_alloc_past _ _ ?_).trans (heap_alloc_at _ _ ?_)))) <;> (simp <;> omega)))); (case hi => (refine sizeObj.trans (congrArg some ?_); (first | (simp [hO.size, zob_objC.size]; done) | rfl))); (case hdf => rfl); exact ⟨rfl, (by repeat (first | exact Below.refl _ _ | (refine Below.alloc ?_ (by simp <;> omega) _)))⟩)

set_option maxHeartbeats 4000000 in
theorem take_held (cs : Array Value) (hd : ByteArray) (tm un : Int) (holder : ByteArray) (now : Int) (w : World) (hO : ObjC cs) (h4 : cs[4]? = some (.slice none 0 0)) (h27 : cs[27]? = some (.slice none 0 0)) (h29 : cs[29]? = some (.string hd)) (h30 : cs[30]? = some (.int .i64 tm)) (h31 : cs[31]? = some (.int .i64 un))
    (hh : holder.toList.isEmpty = false) (hn0 : 0 ≤ now) (hn1 : now ≤ 4611686018427387904) (hdn : hd.toList.isEmpty = false) (hne : (hd.toList == holder.toList) = false) (hun : now < un) :
    Calls Tryd.prog 8 #[.agg cs, .string holder, .int .i64 now] w fun e w' => e = .returned (.tuple #[.agg zob, .iface 63 (.int .i64 17)]) ∧ Below w.heap.size w w' := by
  have hov : decide (un ≤ now) = false := by simp; omega
  go_enter Tryd.func8, Tryd.ntmps8
  go_wp2_with (first | (go_at_call 14; refine (over_any _ _ _ _ (by assumption)).mono ?_; rintro e w1 ⟨rfl, rfl⟩) | (go_at_call 22; refine (clone_nil _).mono ?_; rintro e w1 ⟨rfl, rfl⟩) | ((first | (with_reducible apply ldRow 27 Tryd.underlying27 rfl) | ((with_reducible apply ldRowG 27 Tryd.underlying27 rfl); (case hw => rfl))); (case hx => rfl); (case hg => ((try simp only [heap_drew]); first | ((with_reducible refine heap_alloc_at _ _ ?_) <;> (simp <;> omega)) | ((with_reducible refine (heap_alloc_past _ _ ?_).trans (heap_alloc_at _ _ ?_)) <;> (simp <;> omega)) | ((with_reducible refine (heap_alloc_past _ _ ?_).trans ((heap_alloc_past _ _ ?_).trans (heap_alloc_at _ _ ?_))) <;> (simp <;> omega)) | ((with_reducible refine (heap_alloc_past _ _ ?_).trans ((heap_alloc_past _ _ ?_).trans ((heap_alloc_past _ _ ?_).trans (heap_alloc_at _ _ ?_)))) <;> (simp <;> omega)))); (case hi => (refine sizeObj.trans (congrArg some ?_); (first | (simp [hO.size, zob_objC.size]; done) | rfl)))) | ((with_reducible apply stRow 27); (case hx => rfl); (case hy => rfl); (case hg => ((try simp only [heap_drew]); first | ((with_reducible refine heap_alloc_at _ _ ?_) <;> (simp <;> omega)) | ((with_reducible refine (heap_alloc_past _ _ ?_).trans (heap_alloc_at _ _ ?_)) <;> (simp <;> omega)) | ((with_reducible refine (heap_alloc_past _ _ ?_).trans ((heap_alloc_past _ _ ?_).trans (heap_alloc_at _ _ ?_))) <;> (simp <;> omega)) | ((with_reducible refine (heap_alloc_past _ _ ?_).trans ((heap_alloc_past _ _ ?_).trans ((heap_alloc_past _ _ ?_).trans (heap_alloc_at _ _ ?_)))) <;> (simp <;> omega)))); (case hs => (first | (simp [zob_objC.size, hO.size]; done) | exact zob_objC.size.trans zob_objC.size.symm)); (case hi => (refine sizeObj.trans (congrArg some ?_); (first | (simp [hO.size, zob_objC.size]; done) | rfl))); (case h1 => (first | (with_reducible exact hF.one) | (with_reducible exact hO.one) | exact zob_objC.one))) )
  all_goals ((apply retRowTmp 27 Tryd.underlying27 rfl (fr := (0, 0))); (case hf => rfl); (case hp => rfl); (case hv => rfl); (case hg => ((try simp only [heap_drew]); first | ((with_reducible refine heap_alloc_at _ _ ?_) <;> (simp <;> omega)) | ((with_reducible refine (heap_alloc_past _ _ ?_).trans (heap_alloc_at _ _ ?_)) <;> (simp <;> omega)) | ((with_reducible refine (heap_alloc_past _ _ ?_).trans ((heap_alloc_past _ _ ?_).trans (heap_alloc_at _ _ ?_))) <;> (simp <;> omega)) | ((with_reducible refine (heap_alloc_past _ _ ?_).trans ((heap_alloc_past _ _ ?_).trans ((heap_alloc_past _ _ ?_).trans (heap_alloc_at _ _ ?_)))) <;> (simp <;> omega)))); (case hi => (refine sizeObj.trans (congrArg some ?_); (first | (simp [hO.size, zob_objC.size]; done) | rfl))); (case hdf => rfl); exact ⟨rfl, (by repeat (first | exact Below.refl _ _ | (refine Below.alloc ?_ (by simp <;> omega) _)))⟩)

end Go.Proofs.YtdcnojjcffkmaaaDoor
