/-
  Leases as objects without labels ('lob'): lease.Take, Holds and Over over them.
  Conditions: as each theorem states them.
-/
import Derived.Test.YtdcnojjcffkmaaaDoorLeaseNew
import Derived.Test.YtdcnojjcffkmaaaDoorKeep
namespace Go.Proofs.YtdcnojjcffkmaaaDoor
open Go.RowKit Go.Extern.Stop Go.Stop Go.Extern
set_option linter.unusedVariables false
set_option linter.unusedSimpArgs false
set_option maxRecDepth 100000

theorem bytes_ext {a b : ByteArray} (h : a.toList = b.toList) : a = b := by
  rw [ByteArray.toList_eq, ByteArray.toList_eq] at h
  cases a; cases b; congr 1; exact Array.toList_inj.1 h

def lob (k : Int) (nm h : ByteArray) (t u : Int) : Array Value := #[.int .i64 k, .string nm, .int .i64 0, .int .i64 0, .slice none 0 0, .int .i64 0, .int .i64 0, .bool false, .bool false, .bool false, .int .i64 0, .string ⟨#[]⟩, .string ⟨#[]⟩, .string ⟨#[]⟩, .int .i64 0, .bool false, .bool false, .int .i64 0, .int .i64 0, .string ⟨#[]⟩, .int .i64 0, .int .i64 0, .int .i64 0, .int .i64 0, .int .i64 0, .bool false, .int .u64 0, .slice none 0 0, .int .i64 0, .string h, .int .i64 t, .int .i64 u]
section
variable (k : Int) (nm h : ByteArray) (t u : Int)
theorem lob_objC : ObjC (lob k nm h t u) := ⟨rfl, fun v hv => List.all_eq_true.1 (show (lob k nm h t u).toList.all Value.oneCell' = true from rfl) v hv⟩
theorem lob_take (h' : ByteArray) (t' u' : Int) : ((((((lob k nm h t u).setIfInBounds 4 (.slice none 0 0)).setIfInBounds 27 (.slice none 0 0)).setIfInBounds 29 (.string h')).setIfInBounds 30 (.int .i64 t')).setIfInBounds 31 (.int .i64 u')) = lob k nm h' t' u' := rfl
theorem lob_keep (u' : Int) : (((lob k nm h t u).setIfInBounds 4 (.slice none 0 0)).setIfInBounds 27 (.slice none 0 0)).setIfInBounds 31 (.int .i64 u') = lob k nm h t u' := rfl
theorem zob_lob : zob = lob 0 ⟨#[]⟩ ⟨#[]⟩ 0 0 := rfl

theorem ltake_held (holder : ByteArray) (now : Int) (w : World) (hh : holder.toList.isEmpty = false) (hn0 : 0 ≤ now) (hn1 : now ≤ 4611686018427387904) (hdn : h.toList.isEmpty = false) (hne : (h.toList == holder.toList) = false) (hun : now < u) :
    Calls Tryd.prog 8 #[.agg (lob k nm h t u), .string holder, .int .i64 now] w fun e w' => e = .returned (.tuple #[.agg zob, .iface 63 (.int .i64 17)]) ∧ Below w.heap.size w w' :=
  take_held _ h t u holder now w (lob_objC ..) rfl rfl rfl rfl rfl hh hn0 hn1 hdn hne hun
theorem ltake_name (holder : ByteArray) (now : Int) (w : World) (hh : holder.toList.isEmpty = true) :
    Calls Tryd.prog 8 #[.agg (lob k nm h t u), .string holder, .int .i64 now] w fun e w' => e = .returned (.tuple #[.agg zob, .iface 63 (.int .i64 8)]) ∧ Below w.heap.size w w' :=
  take_name _ h t u holder now w (lob_objC ..) rfl rfl rfl rfl rfl hh
theorem ltake_early (holder : ByteArray) (now : Int) (w : World) (hh : holder.toList.isEmpty = false) (hn : now < 0) :
    Calls Tryd.prog 8 #[.agg (lob k nm h t u), .string holder, .int .i64 now] w fun e w' => e = .returned (.tuple #[.agg zob, .iface 63 (.int .i64 1)]) ∧ Below w.heap.size w w' :=
  take_early _ h t u holder now w (lob_objC ..) rfl rfl rfl rfl rfl hh hn
theorem ltake_late (holder : ByteArray) (now : Int) (w : World) (hh : holder.toList.isEmpty = false) (hn : 4611686018427387904 < now) :
    Calls Tryd.prog 8 #[.agg (lob k nm h t u), .string holder, .int .i64 now] w fun e w' => e = .returned (.tuple #[.agg zob, .iface 63 (.int .i64 1)]) ∧ Below w.heap.size w w' :=
  take_late _ h t u holder now w (lob_objC ..) rfl rfl rfl rfl rfl hh hn
theorem ltake_term (holder : ByteArray) (now : Int) (w : World) (hh : holder.toList.isEmpty = false) (hn0 : 0 ≤ now) (hn1 : now ≤ 4611686018427387904) (hun : u ≤ now) (hdn : h.toList.isEmpty = true) (ht : t < 0 ∨ 4611686018427387904 < t) :
    Calls Tryd.prog 8 #[.agg (lob k nm h t u), .string holder, .int .i64 now] w fun e w' => e = .returned (.tuple #[.agg zob, .iface 63 (.int .i64 1)]) ∧ Below w.heap.size w w' := by
  rcases ht with ht | ht
  · exact take_term1 _ h t u holder now w (lob_objC ..) rfl rfl rfl rfl rfl hh hn0 hn1 hun hdn ht
  · exact take_term2 _ h t u holder now w (lob_objC ..) rfl rfl rfl rfl rfl hh hn0 hn1 hun hdn ht
theorem ltake_over (holder : ByteArray) (now : Int) (w : World) (hh : holder.toList.isEmpty = false) (hn0 : 0 ≤ now) (hn1 : now ≤ 4611686018427387904) (ht0 : 0 ≤ t) (ht1 : t ≤ 4611686018427387904) (hun : u ≤ now) :
    Calls Tryd.prog 8 #[.agg (lob k nm h t u), .string holder, .int .i64 now] w fun e w' => e = .returned (.tuple #[.agg (lob k nm holder (t + 1) (now + 4)), .nilIface]) ∧ Below w.heap.size w w' := by
  rw [← lob_take k nm h t u holder (t + 1) (now + 4)]
  cases hdn : h.toList.isEmpty
  · cases hne : (h.toList == holder.toList)
    · exact take_over2 _ h t u holder now w (lob_objC ..) rfl rfl rfl rfl rfl hh hn0 hn1 ht0 ht1 hun hdn hne
    · exact take_over3 _ h t u holder now w (lob_objC ..) rfl rfl rfl rfl rfl hh hn0 hn1 ht0 ht1 hun hdn hne
  · exact take_over1 _ h t u holder now w (lob_objC ..) rfl rfl rfl rfl rfl hh hn0 hn1 ht0 ht1 hun hdn
theorem ltake_keep (now : Int) (w : World) (hh : h.toList.isEmpty = false) (hn0 : 0 ≤ now) (hn1 : now ≤ 4611686018427387904) (ht0 : 0 ≤ t) (ht1 : t ≤ 4611686018427387904) (hun : now < u) :
    Calls Tryd.prog 8 #[.agg (lob k nm h t u), .string h, .int .i64 now] w fun e w' => e = .returned (.tuple #[.agg (lob k nm h t (now + 4)), .nilIface]) ∧ Below w.heap.size w w' := by
  rw [← lob_keep k nm h t u (now + 4)]
  exact take_keep _ h t u h now w (lob_objC ..) rfl rfl rfl rfl rfl hh hn0 hn1 ht0 ht1 hun hh rfl
theorem lholds (holder : ByteArray) (term : Int) (w : World) (hh : holder.toList.isEmpty = false) :
    Calls Tryd.prog 12 #[.agg (lob k nm h t u), .string holder, .int .i64 term] w fun e w' => e = .returned (.bool (decide (h = holder ∧ t = term))) ∧ w' = w.alloc (.cells (lob k nm h t u) 27) := by
  by_cases hx : h = holder ∧ t = term
  · obtain ⟨rfl, rfl⟩ := hx
    refine (holds_yes _ h t w rfl rfl hh).mono ?_
    rintro e w' ⟨rfl, rfl⟩
    exact ⟨ret_bool (by simp), rfl⟩
  · refine (holds_no _ h t holder term w rfl rfl ?_).mono ?_
    · by_cases h1 : h = holder
      · exact .inr (.inr fun h2 => hx ⟨h1, h2⟩)
      · refine .inr (.inl ?_)
        rw [beq_eq_false_iff_ne]
        exact fun h2 => h1 (bytes_ext h2)
    · rintro e w' ⟨rfl, rfl⟩
      exact ⟨ret_bool (by simp [hx]), rfl⟩
theorem lover (now : Int) (w : World) :
    Calls Tryd.prog 14 #[.agg (lob k nm h t u), .int .i64 now] w fun e w' => e = .returned (.bool (decide (u ≤ now))) ∧ w' = w.alloc (.cells (lob k nm h t u) 27) := over_any _ u now w rfl
end
end Go.Proofs.YtdcnojjcffkmaaaDoor
