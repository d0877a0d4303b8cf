/-
  A struct's row loaded within a region that draws its order (the still walk). Of any program; no conditions beyond those stated.
-/
import Derived.Test.YtdcnojjcffkmaaaDoorKeep
import Derived.StillTailTactics
namespace Go.Proofs.YtdcnojjcffkmaaaDoor
open Go.RowKit
set_option linter.unusedVariables false
variable {P : Program}
theorem stillLdRow (ty : TypeId) {d : TypeDesc} (hu : P.underlying ty = some d) (hd : (match d with | .struct _ | .array _ _ => true | _ => false) = true)
    {ops : Array Oper} {rest : List Oper} {dst : Option Tmp} {x : Operand} {tp : TypeId} {pos : String} {af : Array Edge} {a : Act} {w : World} {Q : Act → Prop} {g : Nat} {cs : Array Value} {fr : Nat × Nat}
    (hx : a.eval x = .pointer (some ⟨g, 0, none⟩)) (hg : w.heap[g]? = some (.cells cs ty fr)) (hi : (P.info? ty).map (·.size) = some cs.size)
    (h : wpStill P ops w Q rest (a.put dst (.agg cs))) : wpStill P ops w Q (⟨dst, .load ty x, tp, pos, af, none⟩ :: rest) a := by
  unfold wpStill
  rw [if_pos (by simp [Region.wanted])]
  unfold Oper.still execOp
  simp only [hx, Instr.loadAt, Instr.sureAddr, Sem.run_bind, Sem.run_pure, Result.andThen_ok, run_loadVar_row w g ty ty cs fr d hg hu hd hi]
  exact ⟨rfl, h⟩
end Go.Proofs.YtdcnojjcffkmaaaDoor
