/-
  Walks of layer 6: Encode of the program.
-/
import Derived.Test.YtlcjfphhogcenaaDoorGlyphD
import Derived.Test.YtlcjfphhogcenaaDoorBuilder
import Derived.Test.YtlcjfphhogcenaaDoorShelf
set_option linter.unusedVariables false
set_option linter.unusedSimpArgs false
namespace Go.Proofs.YtlcjfphhogcenaaDoor
open Go.RowKit

/-- A string and an error number. -/
def EncPost (o : Option (List UInt8)) (w : World) (e : Ending) (w' : World) : Prop :=
  e = .returned (.tuple #[.string ⟨(o.getD []).toArray⟩, .int .i64 (if o.isSome then 0 else 4)]) ∧ Below w.heap.size w w'

theorem builderF_below {T e : TypeId} {B b : Nat} {bs : List Value} {w w' : World} {D : Nat} (h : Lib.IsBuilderF T e B b bs w) (hb : Below D w w') (hD : w.heap.size ≤ D) : Lib.IsBuilderF T e B b bs w' := by
  have key : ∀ p, Lib.BuilderAtF T e B b p bs w → Lib.BuilderAtF T e B b p bs w' := by
    rintro p ⟨hB, v, hbk, ⟨hl, hown⟩, hne⟩
    have hlt : b < w.heap.size := (Array.getElem?_eq_some_iff.1 hbk).1
    refine ⟨hB, v, (hb.block b (by omega)).trans hbk, ⟨hl, ?_⟩, hne⟩
    rcases hown with h0 | ⟨g, cap, cur, fz, hv, hg, hh, r⟩
    · exact Or.inl h0
    · exact Or.inr ⟨g, cap, cur, fz, hv, hg, (hb.block g (Nat.lt_of_lt_of_le (Array.getElem?_eq_some_iff.1 hh).1 hD)).trans hh, r⟩
  rcases h with h | h
  · exact Or.inl (key _ h)
  · exact Or.inr (key _ h)

theorem Gl.valid_take_bad {xs : List Int} {k : Nat} (hk : k < xs.length) (h : Gl.script (gi xs k) < 0) : Gl.encode xs = none := by
  unfold Gl.encode
  rw [if_neg]
  intro hv
  unfold Gl.valid at hv
  rw [List.all_eq_true] at hv
  have := hv xs[k] (List.getElem_mem hk)
  rw [gi_eq hk] at h
  simp at this; omega
theorem Gl.units_take {xs : List Int} {k : Nat} (hk : k < xs.length) : Gl.units (xs.take (k + 1)) = Gl.units (xs.take k) ++ Gl.unit (gi xs k) := by
  rw [take_gi hk, Gl.units_append]; simp [Gl.units]
theorem Gl.valid_take {xs : List Int} {k : Nat} (hk : k < xs.length) (hv : Gl.valid (xs.take k) = true) (h : 0 ≤ Gl.script (gi xs k)) : Gl.valid (xs.take (k + 1)) = true := by
  rw [take_gi hk, Gl.valid_append, hv]; simp [Gl.valid, h]

set_option maxHeartbeats 4000000 in
theorem gencode_any (A : Option Addr) (c : Nat) (xs : List Int) (w : World) (ht : Gl.Tab w) (hA : RI w A xs) (hx : xs.length ≤ 30000000000000) :
    Calls Tryd.prog 23 #[.slice A xs.length c] w (EncPost (Gl.encode xs) w) := by
  have hv := ht.lt
  go_enter Tryd.func23, Tryd.ntmps23
  go_wp2_with fail
  go_loopw [9] (fun i wr => ∃ k : Nat, k ≤ xs.length ∧ i = .int .i64 k ∧ Lib.IsBuilderF 54 5 w.heap.size w.heap.size (Lib.byteCells (Gl.units (xs.take k))) wr ∧ Gl.valid (xs.take k) = true ∧ Below w.heap.size w wr) (fun i _ => xs.length - (intOf i).toNat)
  case atStart =>
    exact ⟨0, by omega, rfl, by simpa [Gl.units, Lib.byteCells] using (Lib.IsBuilderF.of (Lib.fresh_isBuilder 54 5 w)), by simp [Gl.valid], (Below.refl _ w).alloc (Nat.le_refl _) _⟩
  case round =>
    obtain ⟨k, hk, rfl, hI, hval, hbw⟩ := hrel
    have HV := Lib.hid hval
    clear hval
    have hsz := hbw.size
    have htw := ht.below hbw (Nat.le_refl _)
    have hul := Gl.units_len (xs.take k)
    have htl : (xs.take k).length ≤ k := List.length_take_le _ _
    by_cases hlt : k < xs.length
    · obtain ⟨b1, o1, rfl, hb1, hc1⟩ := hA k hlt
      have c1 := (hbw.cell (p := ⟨b1, o1 + k, none⟩) hb1).trans (hc1 k hlt)
      clear hc1 hA
      by_cases h0 : Gl.script (gi xs k) < 0
      · have HF := Lib.hid (Gl.valid_take_bad hlt h0)
        go_wp2_with (go_at_call 25; refine (gscript_any _ _ htw).mono ?_; rintro e w1 ⟨rfl, hb1⟩)
        go_ret2
        exact ⟨by rw [HF.out]; rfl, hbw.trans (hb1.mono hsz)⟩
      · have hbd := Gl.script_bounds (r := gi xs k) (by omega)
        have h0' : 0 ≤ Gl.script (gi xs k) := by omega
        go_wp2_with (go_at_call 25; refine (gscript_any _ _ htw).mono ?_)
        first | rintro e w1 rfl hb1 | rintro e w1 ⟨rfl, hb1⟩
        have hI1 := builderF_below hI hb1 (Nat.le_refl _)
        have hz1 := hb1.size
        go_wp2_with (go_at_call 49; refine (writeRune_k w.heap.size w.heap.size _ _ (by omega) (by omega) _ hI1 (by rw [Lib.byteCells_length]; omega) (by omega)).mono ?_)
        first | rintro e w2 rfl h2 hb2 hk2 | rintro e w2 ⟨rfl, h2, hb2, hk2⟩
        go_wp2_with fail
        go_roundw
        case rel =>
          refine ⟨k + 1, by omega, by go_num, ?_, Gl.valid_take hlt HV.out h0', (hbw.trans (hb1.mono hsz)).trans hb2⟩
          rw [Gl.units_take hlt, Lib.byteCells_append, ← encode_unit h0', Lib.byteCells_encodeRune]
          exact Or.inr h2
        case measure => simp [intOf]; omega
    · have e1 : xs.take k = xs := List.take_of_length_le (by omega)
      rw [e1] at hI
      have HF : Hid (Gl.encode xs = some (Gl.units xs)) := by
        have := HV.out
        rw [e1] at this
        show Gl.encode xs = _
        unfold Gl.encode; rw [if_pos this]
      clear e1
      go_wp2_with (go_at_call 50; refine (Tryd.Builder_String_any_k w.heap.size w.heap.size (Gl.units xs) _ hI (by omega)).mono ?_)
      first | rintro e w1 rfl _ b1 _ | rintro e w1 ⟨rfl, _, b1, _⟩
      go_wp2_with fail
      go_ret2
      exact ⟨by rw [HF.out]; rfl, hbw.trans b1⟩
end Go.Proofs.YtlcjfphhogcenaaDoor
