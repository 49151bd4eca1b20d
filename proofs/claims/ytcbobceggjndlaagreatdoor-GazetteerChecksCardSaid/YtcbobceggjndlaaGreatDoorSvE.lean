/-
  planar and plan.Check at a plan without arcs.
-/
import Derived.Test.YtcbobceggjndlaaGreatDoorSvD
set_option linter.unusedVariables false
set_option linter.unusedSimpArgs false
namespace Go.Proofs.YtcbobceggjndlaaGreatDoor
open Go.RowKit

/-- A map's elements, of which nothing is asked. -/
def anyElem : Value → Option (DataW Unit × List MemPlace) := fun _ => some (.lit (.bool true), [])
theorem int_wf {a : Int} (h1 : -9223372036854775808 ≤ a) (h2 : a ≤ 9223372036854775807) : (Lit.int .i64 a).wf = true := by
  have e1 : IntKind.min .i64 = -9223372036854775808 := by decide
  have e2 : IntKind.max .i64 = 9223372036854775807 := by decide
  simp only [Lit.wf, Bool.and_eq_true, decide_eq_true_eq, e1, e2]
  exact ⟨h1, h2⟩
/-- What keeps all but block b, b from B on: nothing below B has turned. -/
theorem grown_below {a w : World} {B b : Nat} (h : a.grownBy w (some b)) (hB : B ≤ b) (hs : B ≤ a.heap.size) : Below B a w :=
  ⟨h.os, h.tape, h.output, h.size, fun k hk => h.block k (by omega) (fun e => by injection e; omega)⟩
/-- The identifiers are numbers of 64 bits. -/
def IdsIn (ns : List Nd) : Prop := ∀ i, i < ns.length → 1 ≤ (nd ns i).id ∧ (nd ns i).id ≤ 1073741824

set_option maxHeartbeats 4000000 in
theorem planar_ok (A : Option Addr) (c n : Nat) (ns : List Nd) (w : World) (hn : ns.length = n) (hx : n ≤ 1000000) (hA : RN w A ns) (hi0 : IdsIn ns) :
    Calls Tryz.prog 143 #[.agg #[.slice A n c, .slice none 0 0, .slice none 0 0]] w fun e w' => e = .returned (.bool true) ∧ Below w.heap.size w w' := by
  have HI := Lib.hid hi0
  clear hi0
  have hmk := fun (W : World) => run_makeMap (P := Tryz.prog) 179 W
  go_enter Tryz.func143, Tryz.ntmps143
  go_wp2_with fail
  refine (segments_ok _ _).mono ?_
  first | rintro e w1 rfl hb1 | rintro e w1 ⟨rfl, hb1⟩
  have hbk : Bk (w.alloc (.cells #[.slice A n c, .slice none 0 0, .slice none 0 0] 38)) w.heap.size 38 #[.slice A n c, .slice none 0 0, .slice none 0 0] := Bk.new _ _ _
  have hk1 := hbk.below hb1 hbk.lt
  have hz1 := hb1.size
  have hb01 : Below w.heap.size w w1 := ((Below.refl _ _).alloc (Nat.le_refl _) _).trans (hb1.mono (by simp))
  have hlt1 := hk1.lt
  clear hb1 hbk
  have q0 : w1.cell? ⟨w.heap.size, 0, none⟩ = some (.slice A n c) := hk1.cell 0
  go_wp2_with fail
  have hm0 : (w1.alloc (.map #[] 0)).ownsMap Tryz.prog 3 anyElem w1.heap.size 0 (.map []) := World.ownsMap_made w1 _ _ _
  have hbm0 : Below w1.heap.size w1 (w1.alloc (.map #[] 0)) := (Below.refl _ _).alloc (Nat.le_refl _) _
  clear q0
  go_loopw [27] (fun iv wr => ∃ (i : Nat) (D : DataW Unit), iv = .int .i64 i ∧ i ≤ n ∧ wr.ownsMap Tryz.prog 3 anyElem w1.heap.size i D ∧ Below w1.heap.size w1 wr) (fun iv _ => n - (intOf iv).toNat)
  case atStart => exact ⟨0, _, rfl, by omega, hm0, hbm0⟩
  case round =>
    obtain ⟨i, D, rfl, hi, hom, hbw⟩ := hrel
    have hzr := hbw.size
    have hb0r : Below w.heap.size w wr := hb01.trans (hbw.mono hb01.size)
    by_cases hlt : i < n
    · obtain ⟨b1, o1, rfl, hbb1, hc1⟩ := hA i (by omega)
      obtain ⟨c1, c2, c3⟩ := hc1 i (by omega)
      have d1 := (hb0r.cell (p := ⟨b1, o1 + i * 3, none⟩) hbb1).trans c1
      have d2 := (hb0r.cell (p := ⟨b1, o1 + i * 3 + 1, none⟩) hbb1).trans c2
      have d3 := (hb0r.cell (p := ⟨b1, o1 + i * 3 + 2, none⟩) hbb1).trans c3
      have hid := HI.out i (by omega)
      have hom2 := hom.alloc (.cells #[.int .i64 (nd ns i).id, .int .i64 (nd ns i).x, .int .i64 (nd ns i).y] 33)
      have HOM := Lib.hid hom2
      clear hc1 c1 c2 c3 hA
      go_wp2_with (at_mapUpdate; refine wpList_mapUpdate_own _ rfl _ _ _ 179 rfl 3 31 (Maps.int_keyed Tryz.underlying3) Tryz.underlying179 anyElem w1.heap.size i D rfl HOM.out (by unfold maxLen; omega) (.int .i64 (nd ns i).id) (.agg #[.int .i64 (nd ns i).x, .int .i64 (nd ns i).y]) _ rfl rfl (Maps.keyOf_int_mk Tryz.underlying3 (int_wf (by omega) (by omega))) _ [] rfl ?_; intro w3 hom3 hg3)
      have hb3 : Below w1.heap.size w1 w3 := (hbw.alloc hzr _).trans (grown_below hg3 (Nat.le_refl _) (by simp; omega))
      go_roundw
      case rel => exact ⟨i + 1, _, by go_num, by omega, hom3, hb3⟩
      case measure => simp [intOf]; omega
    · go_wp2_with fail
      refine (sortS_none _ _ _ _).mono ?_
      first | rintro e w2 rfl rfl | rintro e w2 ⟨rfl, rfl⟩
      go_wp2_with fail
      go_rounds 1
      go_ret
      exact ⟨rfl, hb0r⟩
end Go.Proofs.YtcbobceggjndlaaGreatDoor
