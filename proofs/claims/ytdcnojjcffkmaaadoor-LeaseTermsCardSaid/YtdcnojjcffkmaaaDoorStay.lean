/-
  A law of one argument that changes nothing: what the argument reads as, it reads as behind the call too. Nothing of the program's functions.
  Conditions: as each theorem states them.
-/
import Derived.Test.YtdcnojjcffkmaaaDoorProg
import Derived.Test.YtdcnojjcffkmaaaDoorKeep
import Derived.WideKeyArgs
import Derived.ChangeOld
import Derived.Deep.SlicePairs
import Derived.OpenShut
namespace Go.Proofs.YtdcnojjcffkmaaaDoor
open Go Go.ChangeShapes Go.WideShapes Go.RowKit

set_option maxRecDepth 100000 in
theorem laidOut_prog : laidOutB Tryd.prog = true := by kernel_rfl

theorem stay1 {H : Type} {enc : TypeId × Value → H} {t : TypeId} (hr : Tryd.prog.readableRec t = true) (hrow : t < Tryd.prog.types.size) {W W' : World} {v : Value} {d : DataW H} {ps : List MemPlace}
    (h : DataW.Trod enc Tryd.prog W 0 (fun _ => true) true t v d ps) (hb : Below W.heap.size W W') (sp : Nat → Bool) (hs : ∀ p ∈ ps, sp p.block = true) : DataW.Trod enc Tryd.prog W' 0 sp true t v d ps := by
  refine Go.WideElems.Trod_stays laidOut_prog hr hrow h (fun p hp => hb.same ?_) hs
  obtain ⟨n, hn⟩ := h
  exact DataW.trod_lt n t _ _ hn p hp
end Go.Proofs.YtdcnojjcffkmaaaDoor
