/-
  From a statement's row to the contracts: lists of entries.
-/
import Derived.Test.YtcbobceggjndlaaGreatDoorRow
import Derived.Test.YtcbobceggjndlaaGreatDoorGzP
import Derived.Deep.Slices
import Derived.Carry
import Derived.SizedLaws
set_option linter.unusedVariables false
set_option linter.unusedSimpArgs false
namespace Go.Proofs.YtcbobceggjndlaaGreatDoor
open Go.ChangeShapes Go.WideShapes Go.ChangeAt Go.RowKit
set_option maxRecDepth 100000

/-- The cells of a table of integers. -/
def tabOf : DataW Unit → Array Value
  | .agg ds => (ds.map fun | .lit (.int k n) => Value.int k n | _ => undef).toArray
  | _ => #[]
/-- A WORLD FOR THE WITNESS: the settled one, the tables holding what their initialisers lay. -/
noncomputable def laidWorldG (os : Os) : World :=
  let put (b : Nat) (cs : Array Value) (w : World) : World := { w with heap := w.heap.modify b fun
      | .cells _ t frozen => .cells cs t frozen
      | o => o }
  put 3 (tabOf Rows.laid_math_bits_deBruijn32tab) (put 4 (tabOf Rows.laid_math_bits_deBruijn64tab) (put 2 (tabOf Rows.laid_internal_strconv_uint64pow10) (laidWorld os)))
theorem row_cells_ent : Tryz.prog.cellsOf 29 = 4 := by kernel_rfl
theorem row_bytes_ent : Tryz.prog.bytesOf 29 = 48 := by kernel_rfl
theorem row_cells_str : Tryz.prog.cellsOf 9 = 1 := by kernel_rfl
section
variable {H : Type} {enc : TypeId × Value → H} {w : World} {base : Nat} {sp : Nat → Bool} {held : Bool}
theorem entcells {fuel : Nat} {cs : List Value} {x : DataW H × List MemPlace} (h : DataW.trod enc Tryz.prog w base sp held fuel 29 cs = some x) : ∃ s : Ent, cs = entC s := by
  obtain ⟨xs, n, rfl, hx, hl, hxl, hall⟩ := DataW.trod_struct Tryz.underlying29 h
  rw [row_cells_ent] at hl
  match cs, hl, xs, hxl with
  | [v0, v1, v2, v3], _, [x0, x1, x2, x3], _ =>
    have h0 := hall 0 _ rfl
    have h1 := hall 1 _ rfl
    have h2 := hall 2 _ rfl
    have h3 := hall 3 _ rfl
    simp [row_cells_int, row_cells_str] at h0 h1 h2 h3
    obtain ⟨z0, hc0, _⟩ := DataW.trod_string Tryz.underlying9 h0
    obtain ⟨z1, hc1, _⟩ := DataW.trod_int Tryz.underlying3 h1
    obtain ⟨z2, hc2, _⟩ := DataW.trod_int Tryz.underlying3 h2
    obtain ⟨z3, hc3, _⟩ := DataW.trod_string Tryz.underlying9 h3
    simp at hc0 hc1 hc2 hc3
    exact ⟨⟨z0, z1, z2, z3⟩, by rw [hc0, hc1, hc2, hc3]; rfl⟩
end

section
variable {H : Type} {enc : TypeId × Value → H}
/-- What is owed when a call has left all that it found as it was: an argument of whatever type reads as it did. -/
theorem shut_any {t : TypeId} (hr : Tryz.prog.readableRec t = true) (hrow : t < Tryz.prog.types.size) {W W' : World} {v : Value} {d : DataW H} {ps : List MemPlace} {sp : Nat → Bool}
    (h : DataW.Trod enc Tryz.prog W 0 (fun _ => true) true t v d ps) (hb : Below W.heap.size W W') (hsp : ∀ p ∈ ps, sp p.block = true) : DataW.Trod enc Tryz.prog W' 0 sp true t v d ps := by
  obtain ⟨fuel, hf⟩ := h
  exact WideElems.Trod_stays laid_out hr hrow ⟨fuel, hf⟩ (fun x hx => hb.same (DataW.trod_lt _ _ _ _ hf x hx)) hsp
/-- A list that is read off a function. -/
theorem list_of {α : Type} (P : Nat → α → Prop) : ∀ n, (∀ i, i < n → ∃ a, P i a) → ∃ l : List α, l.length = n ∧ ∀ i (h : i < l.length), P i l[i]
  | 0, _ => ⟨[], rfl, fun i h => absurd h (by simp)⟩
  | n + 1, hp => by
    obtain ⟨l, hl, hh⟩ := list_of P n (fun i hi => hp i (by omega))
    obtain ⟨a, ha⟩ := hp n (by omega)
    refine ⟨l ++ [a], by simp [hl], fun i h => ?_⟩
    by_cases hi : i < l.length
    · rw [List.getElem_append_left hi]; exact hh i hi
    · have : i = n := by simp at h; omega
      subst this
      rw [List.getElem_append_right (by omega)]
      simp [hl]
      exact ha
/-- A list of entries that came in. -/
theorem open_ents {W : World} {r : Reach} {b0 : Nat} {v : Value} {d : DataW H} {ps : List MemPlace} (hval : Value.okWide Tryz.prog W r b0 22 v) (hd : DataW.Trod enc Tryz.prog W 0 (fun _ => true) true 22 v d ps) :
    ∃ A c ss, v = .slice A (ss : List Ent).length c ∧ RE W A ss ∧ (A = none → ss.length = 0 ∧ c = 0) ∧
      ∀ (ts : List TypeId) (ds : List (DataW H)) (j : Nat), ts[j]? = some 22 → ds[j]? = some d → (DataW.weightsEach Tryz.prog ts ds).all (· ≤ reachBytes) = true → ss.length * 48 ≤ 140737488355328 := by
  obtain ⟨A, len, cap, rfl⟩ := okWide_slice Tryz.underlying22 hval
  obtain ⟨fuel, hf⟩ := hd
  have hlt := fun p hp => DataW.trod_lt _ _ _ _ hf p hp
  rcases Go.Deep.open_slice Tryz.underlying22 hf with ⟨hcs, hx⟩ | ⟨a, len', cap', m, n, D, Pl, hcs, hb, hl, hm, hmm, hx, hel⟩
  · simp [Value.cells] at hcs
    obtain ⟨rfl, rfl, rfl⟩ := hcs
    exact ⟨none, 0, [], rfl, fun k hk => absurd hk (by simp), fun _ => ⟨rfl, rfl⟩, fun _ _ _ _ _ _ => by simp⟩
  · simp [Value.cells] at hcs
    obtain ⟨rfl, rfl, rfl⟩ := hcs
    simp at hmm
    subst hmm
    obtain ⟨ss, hsl, hss⟩ := list_of (fun i (s : Ent) => ∀ j, j < 4 → W.cell? (a.add (i * 4 + j)) = (entC s)[j]?) len (fun i hi => by
      obtain ⟨cs', hc, ht⟩ := hel i (by omega)
      rw [row_cells_ent] at hc
      obtain ⟨s, rfl⟩ := entcells ht
      obtain ⟨_, _, hat⟩ := World.cells?_some hc
      refine ⟨s, fun j hj => ?_⟩
      rw [← Go.Deep.add_add]
      exact hat j hj)
    refine ⟨some a, _, ss, by rw [hsl], fun k hk => ?_, (fun h => by cases h), fun ts ds j ht hdj hw => ?_⟩
    · have h0 := hss 0 (by omega) 0 (by omega)
      have hsp : a.spot = none := by
        cases hs : a.spot with
        | none => rfl
        | some s =>
          simp only [World.cell?, Addr.add] at h0
          split at h0
          · simp [hs, entC] at h0
          · simp [entC] at h0
      have ha : a = ⟨a.block, a.off, none⟩ := by cases a; simp_all
      have hrow : MemPlace.cell a.block (a.off + 0) ∈ ps := by
        simp only [Prod.mk.injEq] at hx
        rw [hx.2, row_cells_ent, List.mem_append]
        exact Or.inl (MemPlace.mem_row.2 ⟨0, by omega, rfl⟩)
      refine ⟨a.block, a.off, by rw [← ha], hlt _ hrow, fun j hj => ?_⟩
      have hc := hss j hj
      have e : ∀ i, i < 4 → W.cell? ⟨a.block, a.off + j * 4 + i, none⟩ = W.cell? (a.add (j * 4 + i)) := fun i _ => by
        rw [show a.add (j * 4 + i) = (⟨a.block, a.off, none⟩ : Addr).add (j * 4 + i) by rw [← ha], add_plain, Nat.add_assoc]
      rw [en_eq hj]
      exact ⟨(e 0 (by omega)).trans (hc 0 (by omega)), (e 1 (by omega)).trans (hc 1 (by omega)), (e 2 (by omega)).trans (hc 2 (by omega)), (e 3 (by omega)).trans (hc 3 (by omega))⟩
    · simp only [Prod.mk.injEq] at hx
      rw [hx.1] at hdj
      have h := sized_slice hw ht hdj Tryz.underlying22
      rw [row_bytes_ent] at h
      have h2 := reachBytes_lt
      simp only [List.length_map, List.length_range] at h
      omega
end
end Go.Proofs.YtcbobceggjndlaaGreatDoor
