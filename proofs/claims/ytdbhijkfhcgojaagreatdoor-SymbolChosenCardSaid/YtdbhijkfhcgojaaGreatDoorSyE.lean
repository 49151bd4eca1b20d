/-
  Symbols: inRange of the program.
-/
import Derived.Test.YtdbhijkfhcgojaaGreatDoorSyD
set_option linter.unusedVariables false
set_option linter.unusedSimpArgs false
namespace Go.Proofs.YtdbhijkfhcgojaaGreatDoor
open Go.RowKit

/-- Are the numbers of a symbol in their ranges? -/
def Sy.ranges (s : Sym) : Prop := (1 ≤ s.cls ∧ s.cls ≤ 9) ∧ (0 ≤ s.w ∧ s.w ≤ 64) ∧ (0 ≤ s.h ∧ s.h ≤ 64) ∧ (0 ≤ s.l ∧ s.l ≤ 64) ∧ (0 ≤ s.i0 ∧ s.i0 ≤ 100) ∧ (0 ≤ s.i1 ∧ s.i1 ≤ 100) ∧ (0 ≤ s.i2 ∧ s.i2 ≤ 100) ∧ (0 ≤ s.i3 ∧ s.i3 ≤ 100)
def Sy.ink (s : Sym) : Nat → Int
  | 0 => s.i0
  | 1 => s.i1
  | 2 => s.i2
  | _ => s.i3
instance (s : Sym) : Decidable (Sy.ranges s) := by unfold Sy.ranges; infer_instance

set_option maxRecDepth 4000 in
set_option maxHeartbeats 8000000 in
theorem yinrange_any (s : Sym) (w : World) : Calls Tryz.prog 16 #[symV s] w fun e w' => e = .returned (.bool (decide (Sy.ranges s))) ∧ Below w.heap.size w w' := by
  unfold symV
  by_cases hc1 : 1 ≤ s.cls
  rotate_left
  · have HB : Hid (decide (Sy.ranges s) = false) := Lib.hid (decide_eq_false (by unfold Sy.ranges; omega))
    go_enter Tryz.func16, Tryz.ntmps16
    go_wp2_with fail
    go_ret
    refine ⟨by rw [HB.out]; rfl, ?_⟩
    go_grown
  by_cases hc2 : s.cls ≤ 9
  rotate_left
  · have HB : Hid (decide (Sy.ranges s) = false) := Lib.hid (decide_eq_false (by unfold Sy.ranges; omega))
    go_enter Tryz.func16, Tryz.ntmps16
    go_wp2_with fail
    go_ret
    refine ⟨by rw [HB.out]; rfl, ?_⟩
    go_grown
  by_cases hw : 0 ≤ s.w ∧ s.w ≤ 64
  rotate_left
  · have HB : Hid (decide (Sy.ranges s) = false) := Lib.hid (decide_eq_false (by unfold Sy.ranges; omega))
    go_enter Tryz.func16, Tryz.ntmps16
    go_wp2_with fail
    refine (side_at _ false _ (decide_eq_false hw)).mono ?_
    first | rintro e w1 rfl rfl | rintro e w1 ⟨rfl, rfl⟩
    go_wp2_with fail
    go_ret
    refine ⟨by rw [HB.out]; rfl, ?_⟩
    go_grown
  by_cases hh : 0 ≤ s.h ∧ s.h ≤ 64
  rotate_left
  · have HB : Hid (decide (Sy.ranges s) = false) := Lib.hid (decide_eq_false (by unfold Sy.ranges; omega))
    go_enter Tryz.func16, Tryz.ntmps16
    go_wp2_with fail
    refine (side_at _ true _ (decide_eq_true hw)).mono ?_
    first | rintro e w1 rfl rfl | rintro e w1 ⟨rfl, rfl⟩
    go_wp2_with fail
    refine (side_at _ false _ (decide_eq_false hh)).mono ?_
    first | rintro e w1 rfl rfl | rintro e w1 ⟨rfl, rfl⟩
    go_wp2_with fail
    go_ret
    refine ⟨by rw [HB.out]; rfl, ?_⟩
    go_grown
  by_cases hl : 0 ≤ s.l ∧ s.l ≤ 64
  rotate_left
  · have HB : Hid (decide (Sy.ranges s) = false) := Lib.hid (decide_eq_false (by unfold Sy.ranges; omega))
    go_enter Tryz.func16, Tryz.ntmps16
    go_wp2_with fail
    refine (side_at _ true _ (decide_eq_true hw)).mono ?_
    first | rintro e w1 rfl rfl | rintro e w1 ⟨rfl, rfl⟩
    go_wp2_with fail
    refine (side_at _ true _ (decide_eq_true hh)).mono ?_
    first | rintro e w1 rfl rfl | rintro e w1 ⟨rfl, rfl⟩
    go_wp2_with fail
    refine (side_at _ false _ (decide_eq_false hl)).mono ?_
    first | rintro e w1 rfl rfl | rintro e w1 ⟨rfl, rfl⟩
    go_wp2_with fail
    go_ret
    refine ⟨by rw [HB.out]; rfl, ?_⟩
    go_grown
  go_enter Tryz.func16, Tryz.ntmps16
  go_wp2_with fail
  refine (side_at _ true _ (decide_eq_true hw)).mono ?_
  first | rintro e w1 rfl rfl | rintro e w1 ⟨rfl, rfl⟩
  go_wp2_with fail
  refine (side_at _ true _ (decide_eq_true hh)).mono ?_
  first | rintro e w1 rfl rfl | rintro e w1 ⟨rfl, rfl⟩
  go_wp2_with fail
  refine (side_at _ true _ (decide_eq_true hl)).mono ?_
  first | rintro e w1 rfl rfl | rintro e w1 ⟨rfl, rfl⟩
  go_wp2_with fail
  have HS : Hid ((1 ≤ s.cls ∧ s.cls ≤ 9) ∧ (0 ≤ s.w ∧ s.w ≤ 64) ∧ (0 ≤ s.h ∧ s.h ≤ 64) ∧ (0 ≤ s.l ∧ s.l ≤ 64)) := Lib.hid ⟨⟨hc1, hc2⟩, hw, hh, hl⟩
  clear hc1 hc2 hw hh hl
  have x0 : ∀ w, (Instr.index 24 (.agg #[.int .i64 s.i0, .int .i64 s.i1, .int .i64 s.i2, .int .i64 s.i3]) (.int .i64 0)).run Tryz.prog w = .ok (.int .i64 s.i0) w := fun _ => by kernel_rfl
  have x1 : ∀ w, (Instr.index 24 (.agg #[.int .i64 s.i0, .int .i64 s.i1, .int .i64 s.i2, .int .i64 s.i3]) (.int .i64 1)).run Tryz.prog w = .ok (.int .i64 s.i1) w := fun _ => by kernel_rfl
  have x2 : ∀ w, (Instr.index 24 (.agg #[.int .i64 s.i0, .int .i64 s.i1, .int .i64 s.i2, .int .i64 s.i3]) (.int .i64 2)).run Tryz.prog w = .ok (.int .i64 s.i2) w := fun _ => by kernel_rfl
  have x3 : ∀ w, (Instr.index 24 (.agg #[.int .i64 s.i0, .int .i64 s.i1, .int .i64 s.i2, .int .i64 s.i3]) (.int .i64 3)).run Tryz.prog w = .ok (.int .i64 s.i3) w := fun _ => by kernel_rfl
  go_loopw [33] (fun iv wr => ∃ i : Nat, iv = .int .i64 i ∧ i ≤ 4 ∧ Hid (∀ j, j < i → 0 ≤ Sy.ink s j ∧ Sy.ink s j ≤ 100) ∧ Below w.heap.size w wr) (fun iv _ => 4 - (intOf iv).toNat)
  case atStart => exact ⟨0, rfl, by omega, fun j hj => absurd hj (by omega), by go_grown⟩
  case round =>
    obtain ⟨i, rfl, hi, hall, hbw⟩ := hrel
    obtain rfl | rfl | rfl | rfl | rfl : i = 0 ∨ i = 1 ∨ i = 2 ∨ i = 3 ∨ i = 4 := by omega
    · by_cases ha : 0 ≤ s.i0
      rotate_left
      · have HB : Hid (decide (Sy.ranges s) = false) := Lib.hid (decide_eq_false (by unfold Sy.ranges; omega))
        go_wp2_with fail
        go_ret
        exact ⟨by rw [HB.out]; rfl, hbw⟩
      by_cases hb : s.i0 ≤ 100
      rotate_left
      · have HB : Hid (decide (Sy.ranges s) = false) := Lib.hid (decide_eq_false (by unfold Sy.ranges; omega))
        go_wp2_with fail
        go_ret
        exact ⟨by rw [HB.out]; rfl, hbw⟩
      have HN := Lib.hid (show 0 ≤ Sy.ink s 0 ∧ Sy.ink s 0 ≤ 100 from ⟨ha, hb⟩)
      go_wp2_with fail
      go_roundw
      case rel => exact ⟨1, by go_num, by omega, fun j hj => (Nat.lt_or_eq_of_le (Nat.le_of_lt_succ hj)).elim (hall.out j) (fun e => by rw [e]; exact HN.out), hbw⟩
      case measure => simp [intOf]
    · by_cases ha : 0 ≤ s.i1
      rotate_left
      · have HB : Hid (decide (Sy.ranges s) = false) := Lib.hid (decide_eq_false (by unfold Sy.ranges; omega))
        go_wp2_with fail
        go_ret
        exact ⟨by rw [HB.out]; rfl, hbw⟩
      by_cases hb : s.i1 ≤ 100
      rotate_left
      · have HB : Hid (decide (Sy.ranges s) = false) := Lib.hid (decide_eq_false (by unfold Sy.ranges; omega))
        go_wp2_with fail
        go_ret
        exact ⟨by rw [HB.out]; rfl, hbw⟩
      have HN := Lib.hid (show 0 ≤ Sy.ink s 1 ∧ Sy.ink s 1 ≤ 100 from ⟨ha, hb⟩)
      go_wp2_with fail
      go_roundw
      case rel => exact ⟨2, by go_num, by omega, fun j hj => (Nat.lt_or_eq_of_le (Nat.le_of_lt_succ hj)).elim (hall.out j) (fun e => by rw [e]; exact HN.out), hbw⟩
      case measure => simp [intOf]
    · by_cases ha : 0 ≤ s.i2
      rotate_left
      · have HB : Hid (decide (Sy.ranges s) = false) := Lib.hid (decide_eq_false (by unfold Sy.ranges; omega))
        go_wp2_with fail
        go_ret
        exact ⟨by rw [HB.out]; rfl, hbw⟩
      by_cases hb : s.i2 ≤ 100
      rotate_left
      · have HB : Hid (decide (Sy.ranges s) = false) := Lib.hid (decide_eq_false (by unfold Sy.ranges; omega))
        go_wp2_with fail
        go_ret
        exact ⟨by rw [HB.out]; rfl, hbw⟩
      have HN := Lib.hid (show 0 ≤ Sy.ink s 2 ∧ Sy.ink s 2 ≤ 100 from ⟨ha, hb⟩)
      go_wp2_with fail
      go_roundw
      case rel => exact ⟨3, by go_num, by omega, fun j hj => (Nat.lt_or_eq_of_le (Nat.le_of_lt_succ hj)).elim (hall.out j) (fun e => by rw [e]; exact HN.out), hbw⟩
      case measure => simp [intOf]
    · by_cases ha : 0 ≤ s.i3
      rotate_left
      · have HB : Hid (decide (Sy.ranges s) = false) := Lib.hid (decide_eq_false (by unfold Sy.ranges; omega))
        go_wp2_with fail
        go_ret
        exact ⟨by rw [HB.out]; rfl, hbw⟩
      by_cases hb : s.i3 ≤ 100
      rotate_left
      · have HB : Hid (decide (Sy.ranges s) = false) := Lib.hid (decide_eq_false (by unfold Sy.ranges; omega))
        go_wp2_with fail
        go_ret
        exact ⟨by rw [HB.out]; rfl, hbw⟩
      have HN := Lib.hid (show 0 ≤ Sy.ink s 3 ∧ Sy.ink s 3 ≤ 100 from ⟨ha, hb⟩)
      go_wp2_with fail
      go_roundw
      case rel => exact ⟨4, by go_num, by omega, fun j hj => (Nat.lt_or_eq_of_le (Nat.le_of_lt_succ hj)).elim (hall.out j) (fun e => by rw [e]; exact HN.out), hbw⟩
      case measure => simp [intOf]
    · have HB : Hid (decide (Sy.ranges s) = true) := Lib.hid (decide_eq_true ⟨HS.out.1, HS.out.2.1, HS.out.2.2.1, HS.out.2.2.2, hall.out 0 (by omega), hall.out 1 (by omega), hall.out 2 (by omega), hall.out 3 (by omega)⟩)
      go_wp2_with fail
      go_ret
      exact ⟨by rw [HB.out]; rfl, hbw⟩
end Go.Proofs.YtdbhijkfhcgojaaGreatDoor
