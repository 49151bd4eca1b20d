/-
  From a statement's row to the contracts: points; arguments that read as they did.
-/
import Derived.Test.YtmmkgdindbdckaaGreatDoorRow
import Derived.Test.YtmmkgdindbdckaaGreatDoorCaG
import Derived.Deep.Slices
import Derived.Carry
set_option linter.unusedVariables false
set_option linter.unusedSimpArgs false
namespace Go.Proofs.YtmmkgdindbdckaaGreatDoor
open Go.ChangeShapes Go.WideShapes Go.ChangeAt Go.RowKit
set_option maxRecDepth 100000

theorem row_cells_pt : Tryz.prog.cellsOf 23 = 2 := by kernel_rfl
section
variable {H : Type} {enc : TypeId × Value → H} {w : World} {base : Nat} {sp : Nat → Bool} {held : Bool}
theorem ptcells {fuel : Nat} {cs : List Value} {x : DataW H × List MemPlace} (h : DataW.trod enc Tryz.prog w base sp held fuel 23 cs = some x) : ∃ a b : Int, cs = [.int .i64 a, .int .i64 b] := by
  obtain ⟨xs, n, rfl, hx, hl, hxl, hall⟩ := DataW.trod_struct Tryz.underlying23 h
  rw [row_cells_pt] at hl
  match cs, hl, xs, hxl with
  | [v0, v1], _, [x0, x1], _ =>
    have h0 := hall 0 _ rfl
    have h1 := hall 1 _ rfl
    simp [row_cells_int] at h0 h1
    obtain ⟨z0, hc0, _⟩ := DataW.trod_int Tryz.underlying3 h0
    obtain ⟨z1, hc1, _⟩ := DataW.trod_int Tryz.underlying3 h1
    simp at hc0 hc1
    exact ⟨z0, z1, by rw [hc0, hc1]⟩
end
section
variable {H : Type} {enc : TypeId × Value → H}
/-- What is owed when a call has left all that it found as it was: an argument of whatever type reads as it did. -/
theorem shut_any {t : TypeId} (hr : Tryz.prog.readableRec t = true) (hrow : t < Tryz.prog.types.size) {W W' : World} {v : Value} {d : DataW H} {ps : List MemPlace} {sp : Nat → Bool}
    (h : DataW.Trod enc Tryz.prog W 0 (fun _ => true) true t v d ps) (hb : Below W.heap.size W W') (hsp : ∀ p ∈ ps, sp p.block = true) : DataW.Trod enc Tryz.prog W' 0 sp true t v d ps := by
  obtain ⟨fuel, hf⟩ := h
  exact WideElems.Trod_stays laid_out hr hrow ⟨fuel, hf⟩ (fun x hx => hb.same (DataW.trod_lt _ _ _ _ hf x hx)) hsp
theorem open_pt {W : World} {r : Reach} {b0 : Nat} {v : Value} {d : DataW H} {ps : List MemPlace} (hval : Value.okWide Tryz.prog W r b0 23 v) (hd : DataW.Trod enc Tryz.prog W 0 (fun _ => true) true 23 v d ps) : ∃ a b, v = ptV a b := by
  obtain ⟨cs, rfl, _⟩ := okWide_struct Tryz.underlying23 hval
  obtain ⟨fuel, hf⟩ := hd
  obtain ⟨a, b, hs⟩ := ptcells hf
  refine ⟨a, b, ?_⟩
  simp only [Value.cells] at hs
  unfold ptV
  congr 1
  exact Array.toList_inj.1 hs
end
end Go.Proofs.YtmmkgdindbdckaaGreatDoor
