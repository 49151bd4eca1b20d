/-
  Symbols: ranges of the reference.
-/
import Derived.Test.YtdbhijkfhcgojaaGreatDoorSyE
set_option linter.unusedVariables false
set_option linter.unusedSimpArgs false
namespace Go.Proofs.YtdbhijkfhcgojaaGreatDoor
open Go.RowKit

set_option maxRecDepth 4000 in
set_option maxHeartbeats 8000000 in
theorem ryranges_any (s : Sym) (w : World) : Calls Tryz.prog 18 #[symV s] w fun e w' => e = .returned (.bool (decide (Sy.ranges s))) ∧ Below w.heap.size w w' := by
  unfold symV
  go_enter Tryz.func18, Tryz.ntmps18
  go_wp2_with fail
  obtain ⟨W1, hW⟩ : ∃ W, w.alloc (.cells #[.int .i64 s.kind, .int .i64 s.cls, .int .i64 s.w, .int .i64 s.h, .int .i64 s.l, .int .i64 s.i0, .int .i64 s.i1, .int .i64 s.i2, .int .i64 s.i3] 26) = W := ⟨_, rfl⟩
  have hb1 : Below w.heap.size w W1 := by rw [← hW]; exact (Below.refl _ _).alloc (Nat.le_refl _) _
  have hk1 : Bk W1 w.heap.size 26 #[.int .i64 s.kind, .int .i64 s.cls, .int .i64 s.w, .int .i64 s.h, .int .i64 s.l, .int .i64 s.i0, .int .i64 s.i1, .int .i64 s.i2, .int .i64 s.i3] := by rw [← hW]; exact Bk.new _ _ _
  rw [hW]
  clear hW
  have q1 := hk1.cell 1
  have q2 := hk1.cell 2
  have q3 := hk1.cell 3
  have q4 := hk1.cell 4
  have q5 := hk1.cell 5
  have q6 := hk1.cell 6
  have q7 := hk1.cell 7
  have q8 := hk1.cell 8
  simp only [List.getElem?_toArray, List.getElem?_cons_zero, List.getElem?_cons_succ] at q1 q2 q3 q4 q5 q6 q7 q8
  clear hk1
  go_loopw [3] (fun iv wr => ∃ i : Nat, iv = .int .i64 i ∧ i ≤ 4 ∧ Hid (∀ j, j < i → 0 ≤ Sy.ink s j ∧ Sy.ink s j ≤ 100) ∧ wr = W1) (fun iv _ => 4 - (intOf iv).toNat)
  case atStart => exact ⟨0, rfl, by omega, fun j hj => absurd hj (by omega), rfl⟩
  case round =>
    obtain ⟨i, rfl, hi, hall, rfl⟩ := hrel
    obtain rfl | rfl | rfl | rfl | rfl : i = 0 ∨ i = 1 ∨ i = 2 ∨ i = 3 ∨ i = 4 := by omega
    · go_wp2_with fail
      by_cases ha : 0 ≤ s.i0 ∧ s.i0 ≤ 100
      rotate_left
      · have HB : Hid (decide (Sy.ranges s) = false) := Lib.hid (decide_eq_false (by unfold Sy.ranges; omega))
        refine (rin_at _ _ _ false _ (decide_eq_false ha)).mono ?_
        first | rintro e w1 rfl rfl | rintro e w1 ⟨rfl, rfl⟩
        go_wp2_with fail
        go_ret
        exact ⟨by rw [HB.out]; rfl, hb1⟩
      have HN := Lib.hid (show 0 ≤ Sy.ink s 0 ∧ Sy.ink s 0 ≤ 100 from ha)
      refine (rin_at _ _ _ true _ (decide_eq_true ha)).mono ?_
      first | rintro e w1 rfl rfl | rintro e w1 ⟨rfl, rfl⟩
      go_wp2_with fail
      go_roundw
      case rel => exact ⟨1, by go_num, by omega, fun j hj => (Nat.lt_or_eq_of_le (Nat.le_of_lt_succ hj)).elim (hall.out j) (fun e => by rw [e]; exact HN.out), by trivial⟩
      case measure => simp [intOf]
    · go_wp2_with fail
      by_cases ha : 0 ≤ s.i1 ∧ s.i1 ≤ 100
      rotate_left
      · have HB : Hid (decide (Sy.ranges s) = false) := Lib.hid (decide_eq_false (by unfold Sy.ranges; omega))
        refine (rin_at _ _ _ false _ (decide_eq_false ha)).mono ?_
        first | rintro e w1 rfl rfl | rintro e w1 ⟨rfl, rfl⟩
        go_wp2_with fail
        go_ret
        exact ⟨by rw [HB.out]; rfl, hb1⟩
      have HN := Lib.hid (show 0 ≤ Sy.ink s 1 ∧ Sy.ink s 1 ≤ 100 from ha)
      refine (rin_at _ _ _ true _ (decide_eq_true ha)).mono ?_
      first | rintro e w1 rfl rfl | rintro e w1 ⟨rfl, rfl⟩
      go_wp2_with fail
      go_roundw
      case rel => exact ⟨2, by go_num, by omega, fun j hj => (Nat.lt_or_eq_of_le (Nat.le_of_lt_succ hj)).elim (hall.out j) (fun e => by rw [e]; exact HN.out), by trivial⟩
      case measure => simp [intOf]
    · go_wp2_with fail
      by_cases ha : 0 ≤ s.i2 ∧ s.i2 ≤ 100
      rotate_left
      · have HB : Hid (decide (Sy.ranges s) = false) := Lib.hid (decide_eq_false (by unfold Sy.ranges; omega))
        refine (rin_at _ _ _ false _ (decide_eq_false ha)).mono ?_
        first | rintro e w1 rfl rfl | rintro e w1 ⟨rfl, rfl⟩
        go_wp2_with fail
        go_ret
        exact ⟨by rw [HB.out]; rfl, hb1⟩
      have HN := Lib.hid (show 0 ≤ Sy.ink s 2 ∧ Sy.ink s 2 ≤ 100 from ha)
      refine (rin_at _ _ _ true _ (decide_eq_true ha)).mono ?_
      first | rintro e w1 rfl rfl | rintro e w1 ⟨rfl, rfl⟩
      go_wp2_with fail
      go_roundw
      case rel => exact ⟨3, by go_num, by omega, fun j hj => (Nat.lt_or_eq_of_le (Nat.le_of_lt_succ hj)).elim (hall.out j) (fun e => by rw [e]; exact HN.out), by trivial⟩
      case measure => simp [intOf]
    · go_wp2_with fail
      by_cases ha : 0 ≤ s.i3 ∧ s.i3 ≤ 100
      rotate_left
      · have HB : Hid (decide (Sy.ranges s) = false) := Lib.hid (decide_eq_false (by unfold Sy.ranges; omega))
        refine (rin_at _ _ _ false _ (decide_eq_false ha)).mono ?_
        first | rintro e w1 rfl rfl | rintro e w1 ⟨rfl, rfl⟩
        go_wp2_with fail
        go_ret
        exact ⟨by rw [HB.out]; rfl, hb1⟩
      have HN := Lib.hid (show 0 ≤ Sy.ink s 3 ∧ Sy.ink s 3 ≤ 100 from ha)
      refine (rin_at _ _ _ true _ (decide_eq_true ha)).mono ?_
      first | rintro e w1 rfl rfl | rintro e w1 ⟨rfl, rfl⟩
      go_wp2_with fail
      go_roundw
      case rel => exact ⟨4, by go_num, by omega, fun j hj => (Nat.lt_or_eq_of_le (Nat.le_of_lt_succ hj)).elim (hall.out j) (fun e => by rw [e]; exact HN.out), by trivial⟩
      case measure => simp [intOf]
    · have HI : Hid ((0 ≤ s.i0 ∧ s.i0 ≤ 100) ∧ (0 ≤ s.i1 ∧ s.i1 ≤ 100) ∧ (0 ≤ s.i2 ∧ s.i2 ≤ 100) ∧ (0 ≤ s.i3 ∧ s.i3 ≤ 100)) := Lib.hid ⟨hall.out 0 (by omega), hall.out 1 (by omega), hall.out 2 (by omega), hall.out 3 (by omega)⟩
      go_wp2_with fail
      by_cases hcls : 1 ≤ s.cls ∧ s.cls ≤ 9
      rotate_left
      · have HB : Hid (decide (Sy.ranges s) = false) := Lib.hid (decide_eq_false (by unfold Sy.ranges; omega))
        refine (rin_at _ _ _ false _ (decide_eq_false hcls)).mono ?_
        first | rintro e w1 rfl rfl | rintro e w1 ⟨rfl, rfl⟩
        go_wp2_with fail
        go_ret
        exact ⟨by rw [HB.out]; rfl, hb1⟩
      refine (rin_at _ _ _ true _ (decide_eq_true hcls)).mono ?_
      first | rintro e w1 rfl rfl | rintro e w1 ⟨rfl, rfl⟩
      go_wp2_with fail
      by_cases hw : 0 ≤ s.w ∧ s.w ≤ 64
      rotate_left
      · have HB : Hid (decide (Sy.ranges s) = false) := Lib.hid (decide_eq_false (by unfold Sy.ranges; omega))
        refine (rin_at _ _ _ false _ (decide_eq_false hw)).mono ?_
        first | rintro e w1 rfl rfl | rintro e w1 ⟨rfl, rfl⟩
        go_wp2_with fail
        go_ret
        exact ⟨by rw [HB.out]; rfl, hb1⟩
      refine (rin_at _ _ _ true _ (decide_eq_true hw)).mono ?_
      first | rintro e w1 rfl rfl | rintro e w1 ⟨rfl, rfl⟩
      go_wp2_with fail
      by_cases hh : 0 ≤ s.h ∧ s.h ≤ 64
      rotate_left
      · have HB : Hid (decide (Sy.ranges s) = false) := Lib.hid (decide_eq_false (by unfold Sy.ranges; omega))
        refine (rin_at _ _ _ false _ (decide_eq_false hh)).mono ?_
        first | rintro e w1 rfl rfl | rintro e w1 ⟨rfl, rfl⟩
        go_wp2_with fail
        go_ret
        exact ⟨by rw [HB.out]; rfl, hb1⟩
      refine (rin_at _ _ _ true _ (decide_eq_true hh)).mono ?_
      first | rintro e w1 rfl rfl | rintro e w1 ⟨rfl, rfl⟩
      go_wp2_with fail
      by_cases hl : 0 ≤ s.l ∧ s.l ≤ 64
      rotate_left
      · have HB : Hid (decide (Sy.ranges s) = false) := Lib.hid (decide_eq_false (by unfold Sy.ranges; omega))
        refine (rin_at _ _ _ false _ (decide_eq_false hl)).mono ?_
        first | rintro e w1 rfl rfl | rintro e w1 ⟨rfl, rfl⟩
        go_wp2_with fail
        go_ret
        exact ⟨by rw [HB.out]; rfl, hb1⟩
      refine (rin_at _ _ _ true _ (decide_eq_true hl)).mono ?_
      first | rintro e w1 rfl rfl | rintro e w1 ⟨rfl, rfl⟩
      go_wp2_with fail
      have HB : Hid (decide (Sy.ranges s) = true) := Lib.hid (decide_eq_true ⟨hcls, hw, hh, hl, HI.out⟩)
      go_ret
      exact ⟨by rw [HB.out]; rfl, hb1⟩
end Go.Proofs.YtdbhijkfhcgojaaGreatDoor
