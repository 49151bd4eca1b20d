/-
  From a statement's row to the contracts: symbols, points, lists of symbols.
-/
import Derived.Test.YtdbhijkfhcgojaaGreatDoorRow
import Derived.Test.YtdbhijkfhcgojaaGreatDoorSyN
import Derived.Deep.Slices
import Derived.Carry
set_option linter.unusedVariables false
set_option linter.unusedSimpArgs false
namespace Go.Proofs.YtdbhijkfhcgojaaGreatDoor
open Go.ChangeShapes Go.WideShapes Go.ChangeAt Go.RowKit
set_option maxRecDepth 100000

theorem row_cells_sym : Tryz.prog.cellsOf 26 = 9 := by kernel_rfl
theorem row_cells_ink : Tryz.prog.cellsOf 24 = 4 := by kernel_rfl
theorem row_cells_pt : Tryz.prog.cellsOf 33 = 2 := by kernel_rfl
section
variable {H : Type} {enc : TypeId × Value → H} {w : World} {base : Nat} {sp : Nat → Bool} {held : Bool}
theorem inkcells {fuel : Nat} {cs : List Value} {x : DataW H × List MemPlace} (h : DataW.trod enc Tryz.prog w base sp held fuel 24 cs = some x) : ∃ a b c d : Int, cs = [.int .i64 a, .int .i64 b, .int .i64 c, .int .i64 d] := by
  obtain ⟨xs, n, rfl, hx, hl, hxl, hall⟩ := DataW.trod_array Tryz.underlying24 h
  rw [row_cells_ink] at hl
  match cs, hl, xs, hxl with
  | [v0, v1, v2, v3], _, [x0, x1, x2, x3], _ =>
    have h0 := hall 0 (by omega)
    have h1 := hall 1 (by omega)
    have h2 := hall 2 (by omega)
    have h3 := hall 3 (by omega)
    simp [row_cells_int] at h0 h1 h2 h3
    obtain ⟨z0, hc0, _⟩ := DataW.trod_int Tryz.underlying3 h0
    obtain ⟨z1, hc1, _⟩ := DataW.trod_int Tryz.underlying3 h1
    obtain ⟨z2, hc2, _⟩ := DataW.trod_int Tryz.underlying3 h2
    obtain ⟨z3, hc3, _⟩ := DataW.trod_int Tryz.underlying3 h3
    simp at hc0 hc1 hc2 hc3
    exact ⟨z0, z1, z2, z3, by rw [hc0, hc1, hc2, hc3]⟩
theorem symcells {fuel : Nat} {cs : List Value} {x : DataW H × List MemPlace} (h : DataW.trod enc Tryz.prog w base sp held fuel 26 cs = some x) :
    ∃ s : Sym, cs = [.int .i64 s.kind, .int .i64 s.cls, .int .i64 s.w, .int .i64 s.h, .int .i64 s.l, .int .i64 s.i0, .int .i64 s.i1, .int .i64 s.i2, .int .i64 s.i3] := by
  obtain ⟨xs, n, rfl, hx, hl, hxl, hall⟩ := DataW.trod_struct Tryz.underlying26 h
  rw [row_cells_sym] at hl
  match cs, hl, xs, hxl with
  | [v0, v1, v2, v3, v4, v5, v6, v7, v8], _, [x0, x1, x2, x3, x4, x5], _ =>
    have h0 := hall 0 _ rfl
    have h1 := hall 1 _ rfl
    have h2 := hall 2 _ rfl
    have h3 := hall 3 _ rfl
    have h4 := hall 4 _ rfl
    have h5 := hall 5 _ rfl
    simp [row_cells_int, row_cells_ink] at h0 h1 h2 h3 h4 h5
    obtain ⟨z0, hc0, _⟩ := DataW.trod_int Tryz.underlying3 h0
    obtain ⟨z1, hc1, _⟩ := DataW.trod_int Tryz.underlying3 h1
    obtain ⟨z2, hc2, _⟩ := DataW.trod_int Tryz.underlying3 h2
    obtain ⟨z3, hc3, _⟩ := DataW.trod_int Tryz.underlying3 h3
    obtain ⟨z4, hc4, _⟩ := DataW.trod_int Tryz.underlying3 h4
    obtain ⟨a, b, c, d, hc5⟩ := inkcells h5
    simp at hc0 hc1 hc2 hc3 hc4 hc5
    obtain ⟨e0, e1, e2, e3⟩ := hc5
    exact ⟨⟨z0, z1, z2, z3, z4, a, b, c, d⟩, by rw [hc0, hc1, hc2, hc3, hc4, e0, e1, e2, e3]⟩
theorem ptcells {fuel : Nat} {cs : List Value} {x : DataW H × List MemPlace} (h : DataW.trod enc Tryz.prog w base sp held fuel 33 cs = some x) : ∃ a b : Int, cs = [.int .i64 a, .int .i64 b] := by
  obtain ⟨xs, n, rfl, hx, hl, hxl, hall⟩ := DataW.trod_struct Tryz.underlying33 h
  rw [row_cells_pt] at hl
  match cs, hl, xs, hxl with
  | [v0, v1], _, [x0, x1], _ =>
    have h0 := hall 0 _ rfl
    have h1 := hall 1 _ rfl
    simp [row_cells_int] at h0 h1
    obtain ⟨z0, hc0, _⟩ := DataW.trod_int Tryz.underlying3 h0
    obtain ⟨z1, hc1, _⟩ := DataW.trod_int Tryz.underlying3 h1
    simp at hc0 hc1
    exact ⟨z0, z1, by rw [hc0, hc1]⟩
end

section
variable {H : Type} {enc : TypeId × Value → H}
/-- What is owed when a call has left all that it found as it was: an argument of whatever type reads as it did. -/
theorem shut_any {t : TypeId} (hr : Tryz.prog.readableRec t = true) (hrow : t < Tryz.prog.types.size) {W W' : World} {v : Value} {d : DataW H} {ps : List MemPlace} {sp : Nat → Bool}
    (h : DataW.Trod enc Tryz.prog W 0 (fun _ => true) true t v d ps) (hb : Below W.heap.size W W') (hsp : ∀ p ∈ ps, sp p.block = true) : DataW.Trod enc Tryz.prog W' 0 sp true t v d ps := by
  obtain ⟨fuel, hf⟩ := h
  exact WideElems.Trod_stays laid_out hr hrow ⟨fuel, hf⟩ (fun x hx => hb.same (DataW.trod_lt _ _ _ _ hf x hx)) hsp
/-- A symbol that came in. -/
theorem open_sym {W : World} {r : Reach} {b0 : Nat} {v : Value} {d : DataW H} {ps : List MemPlace} (hval : Value.okWide Tryz.prog W r b0 26 v) (hd : DataW.Trod enc Tryz.prog W 0 (fun _ => true) true 26 v d ps) : ∃ s, v = symV s := by
  obtain ⟨cs, rfl, _⟩ := okWide_struct Tryz.underlying26 hval
  obtain ⟨fuel, hf⟩ := hd
  obtain ⟨s, hs⟩ := symcells hf
  refine ⟨s, ?_⟩
  simp only [Value.cells] at hs
  unfold symV
  congr 1
  exact Array.toList_inj.1 hs
theorem open_pt {W : World} {r : Reach} {b0 : Nat} {v : Value} {d : DataW H} {ps : List MemPlace} (hval : Value.okWide Tryz.prog W r b0 33 v) (hd : DataW.Trod enc Tryz.prog W 0 (fun _ => true) true 33 v d ps) : ∃ a b, v = ptV a b := by
  obtain ⟨cs, rfl, _⟩ := okWide_struct Tryz.underlying33 hval
  obtain ⟨fuel, hf⟩ := hd
  obtain ⟨a, b, hs⟩ := ptcells hf
  refine ⟨a, b, ?_⟩
  simp only [Value.cells] at hs
  unfold ptV
  congr 1
  exact Array.toList_inj.1 hs
/-- A list that is read off a function. -/
theorem list_of {α : Type} (P : Nat → α → Prop) : ∀ n, (∀ i, i < n → ∃ a, P i a) → ∃ l : List α, l.length = n ∧ ∀ i (h : i < l.length), P i l[i]
  | 0, _ => ⟨[], rfl, fun i h => absurd h (by simp)⟩
  | n + 1, hp => by
    obtain ⟨l, hl, hh⟩ := list_of P n (fun i hi => hp i (by omega))
    obtain ⟨a, ha⟩ := hp n (by omega)
    refine ⟨l ++ [a], by simp [hl], fun i h => ?_⟩
    by_cases hi : i < l.length
    · rw [List.getElem_append_left hi]; exact hh i hi
    · have : i = n := by simp at h; omega
      subst this
      rw [List.getElem_append_right (by omega)]
      simp [hl]
      exact ha
/-- A list of symbols that came in. -/
theorem open_syms {W : World} {r : Reach} {b0 : Nat} {v : Value} {d : DataW H} {ps : List MemPlace} (hval : Value.okWide Tryz.prog W r b0 22 v) (hd : DataW.Trod enc Tryz.prog W 0 (fun _ => true) true 22 v d ps) :
    ∃ A c ss, v = .slice A (ss : List Sym).length c ∧ RSy W A ss := by
  obtain ⟨A, len, cap, rfl⟩ := okWide_slice Tryz.underlying22 hval
  obtain ⟨fuel, hf⟩ := hd
  have hlt := fun p hp => DataW.trod_lt _ _ _ _ hf p hp
  rcases Go.Deep.open_slice Tryz.underlying22 hf with ⟨hcs, hx⟩ | ⟨a, len', cap', m, n, D, Pl, hcs, hb, hl, hm, hmm, hx, hel⟩
  · simp [Value.cells] at hcs
    obtain ⟨rfl, rfl, rfl⟩ := hcs
    exact ⟨none, 0, [], rfl, fun k hk => absurd hk (by simp)⟩
  · simp [Value.cells] at hcs
    obtain ⟨rfl, rfl, rfl⟩ := hcs
    simp at hmm
    subst hmm
    obtain ⟨ss, hsl, hss⟩ := list_of (fun i (s : Sym) => ∀ j, j < 9 → W.cell? (a.add (i * 9 + j)) = ([.int .i64 s.kind, .int .i64 s.cls, .int .i64 s.w, .int .i64 s.h, .int .i64 s.l, .int .i64 s.i0, .int .i64 s.i1, .int .i64 s.i2, .int .i64 s.i3] : List Value)[j]?) len (fun i hi => by
      obtain ⟨cs', hc, ht⟩ := hel i (by omega)
      rw [row_cells_sym] at hc
      obtain ⟨s, rfl⟩ := symcells ht
      obtain ⟨_, _, hat⟩ := World.cells?_some hc
      refine ⟨s, fun j hj => ?_⟩
      rw [← Go.Deep.add_add]
      exact hat j hj)
    refine ⟨some a, _, ss, by rw [hsl], fun k hk => ?_⟩
    have h0 := hss 0 (by omega) 0 (by omega)
    have hsp : a.spot = none := by
      cases hs : a.spot with
      | none => rfl
      | some s =>
        simp only [World.cell?, Addr.add] at h0
        split at h0
        · simp [hs] at h0
        · simp at h0
    have ha : a = ⟨a.block, a.off, none⟩ := by cases a; simp_all
    have hrow : MemPlace.cell a.block (a.off + 0) ∈ ps := by
      simp only [Prod.mk.injEq] at hx
      rw [hx.2, row_cells_sym, List.mem_append]
      exact Or.inl (MemPlace.mem_row.2 ⟨0, by omega, rfl⟩)
    refine ⟨a.block, a.off, by rw [← ha], hlt _ hrow, fun j hj => ?_⟩
    have hc := hss j hj
    have e : ∀ i, i < 9 → W.cell? ⟨a.block, a.off + j * 9 + i, none⟩ = W.cell? (a.add (j * 9 + i)) := fun i _ => by
      rw [show a.add (j * 9 + i) = (⟨a.block, a.off, none⟩ : Addr).add (j * 9 + i) by rw [← ha], add_plain, Nat.add_assoc]
    rw [sy_eq hj]
    exact ⟨(e 0 (by omega)).trans (hc 0 (by omega)), (e 1 (by omega)).trans (hc 1 (by omega)), (e 2 (by omega)).trans (hc 2 (by omega)), (e 3 (by omega)).trans (hc 3 (by omega)), (e 4 (by omega)).trans (hc 4 (by omega)), (e 5 (by omega)).trans (hc 5 (by omega)), (e 6 (by omega)).trans (hc 6 (by omega)), (e 7 (by omega)).trans (hc 7 (by omega)), (e 8 (by omega)).trans (hc 8 (by omega))⟩
end
end Go.Proofs.YtdbhijkfhcgojaaGreatDoor
