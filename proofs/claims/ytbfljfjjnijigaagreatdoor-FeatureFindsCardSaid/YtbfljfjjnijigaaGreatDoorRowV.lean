/-
  From a statement's row to the small machine: surveys.
-/
import Derived.Test.YtbfljfjjnijigaaGreatDoorRow
import Derived.Test.YtbfljfjjnijigaaGreatDoorRd
import Derived.Deep.Slices
import Derived.Carry
set_option linter.unusedVariables false
set_option linter.unusedSimpArgs false
namespace Go.Proofs.YtbfljfjjnijigaaGreatDoor
open Go.ChangeShapes Go.WideShapes Go.ChangeAt Go.RowKit
set_option maxRecDepth 100000
theorem laid_out : laidOutB Tryz.prog = true := by kernel_rfl
section
variable {H : Type} {enc : TypeId × Value → H}
/-- What is owed when a call has left all that it found as it was: an argument of whatever type reads as it did. -/
theorem shut_any {t : TypeId} (hr : Tryz.prog.readableRec t = true) (hrow : t < Tryz.prog.types.size) {W W' : World} {v : Value} {d : DataW H} {ps : List MemPlace} {sp : Nat → Bool}
    (h : DataW.Trod enc Tryz.prog W 0 (fun _ => true) true t v d ps) (hb : Below W.heap.size W W') (hsp : ∀ p ∈ ps, sp p.block = true) : DataW.Trod enc Tryz.prog W' 0 sp true t v d ps := by
  obtain ⟨fuel, hf⟩ := h
  exact WideElems.Trod_stays laid_out hr hrow ⟨fuel, hf⟩ (fun x hx => hb.same (DataW.trod_lt _ _ _ _ hf x hx)) hsp
end
end Go.Proofs.YtbfljfjjnijigaaGreatDoor
