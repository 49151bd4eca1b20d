/-
  Symbols: side, valid, Box of the program; geom.In.
-/
import Derived.Test.YtdbhijkfhcgojaaGreatDoorSvL
set_option linter.unusedVariables false
set_option linter.unusedSimpArgs false
namespace Go.Proofs.YtdbhijkfhcgojaaGreatDoor
open Go.RowKit

/-- A symbol: kind, class, width, height, height of the letters, four inks. -/
structure Sym where
  kind : Int
  cls : Int
  w : Int
  h : Int
  l : Int
  i0 : Int
  i1 : Int
  i2 : Int
  i3 : Int
deriving DecidableEq
def symV (s : Sym) : Value := .agg #[.int .i64 s.kind, .int .i64 s.cls, .int .i64 s.w, .int .i64 s.h, .int .i64 s.l, .int .i64 s.i0, .int .i64 s.i1, .int .i64 s.i2, .int .i64 s.i3]
def boxV (b : Int × Int × Int × Int) : Value := .agg #[.int .i64 b.1, .int .i64 b.2.1, .int .i64 b.2.2.1, .int .i64 b.2.2.2]
def ptV (x y : Int) : Value := .agg #[.int .i64 x, .int .i64 y]
/-- Can the symbol be placed at the point? -/
def Sy.fit (s : Sym) (x y : Int) : Prop := (0 ≤ s.w ∧ s.w ≤ 64) ∧ (0 ≤ s.h ∧ s.h ≤ 64) ∧ (-1048576 ≤ x ∧ x ≤ 1048576) ∧ (-1048576 ≤ y ∧ y ≤ 1048576)
instance (s : Sym) (x y : Int) : Decidable (Sy.fit s x y) := inferInstanceAs (Decidable (_ ∧ _ ∧ _ ∧ _))
def Sy.box (s : Sym) (x y : Int) : Int × Int × Int × Int :=
  if Sy.fit s x y then (x - s.w / 2, y - s.h / 2, x - s.w / 2 + s.w, y - s.h / 2 + s.h) else (0, 0, 0, 0)

theorem side_any (n : Int) (w : World) : Calls Tryz.prog 19 #[.int .i64 n] w fun e w' => e = .returned (.bool (decide (0 ≤ n ∧ n ≤ 64))) ∧ w = w' := by
  go_enter Tryz.func19, Tryz.ntmps19
  by_cases h : 0 ≤ n
  · go_wp2_with fail
    go_ret
    exact ⟨ret_bool (by simp [h]), rfl⟩
  · go_wp2_with fail
    go_ret
    exact ⟨ret_bool (by simp [h]; omega), rfl⟩
theorem yvalid_any (n : Int) (w : World) : Calls Tryz.prog 20 #[.int .i64 n] w fun e w' => e = .returned (.bool (decide (-1048576 ≤ n ∧ n ≤ 1048576))) ∧ w = w' := by
  go_enter Tryz.func20, Tryz.ntmps20
  by_cases h : -1048576 ≤ n
  · go_wp2_with fail
    go_ret
    exact ⟨ret_bool (by simp [h]), rfl⟩
  · go_wp2_with fail
    go_ret
    exact ⟨ret_bool (by simp [h]; omega), rfl⟩
theorem side_at (n : Int) (b : Bool) (w : World) (h : decide (0 ≤ n ∧ n ≤ 64) = b) : Calls Tryz.prog 19 #[.int .i64 n] w fun e w' => e = .returned (.bool b) ∧ w = w' := by
  subst h; exact side_any n w
theorem yvalid_at (n : Int) (b : Bool) (w : World) (h : decide (-1048576 ≤ n ∧ n ≤ 1048576) = b) : Calls Tryz.prog 20 #[.int .i64 n] w fun e w' => e = .returned (.bool b) ∧ w = w' := by
  subst h; exact yvalid_any n w

theorem in_any (b : Int × Int × Int × Int) (x y : Int) (w : World) : Calls Tryz.prog 13 #[boxV b, ptV x y] w fun e w' => e = .returned (.bool (decide (b.1 ≤ x ∧ x ≤ b.2.2.1 ∧ b.2.1 ≤ y ∧ y ≤ b.2.2.2))) ∧ Below w.heap.size w w' := by
  unfold boxV ptV
  go_enter Tryz.func13, Tryz.ntmps13
  by_cases h1 : b.1 ≤ x
  · by_cases h2 : x ≤ b.2.2.1
    · by_cases h3 : b.2.1 ≤ y
      · go_wp2_with fail
        go_ret
        refine ⟨ret_bool (by simp [h1, h2, h3]), ?_⟩
        go_grown
      · go_wp2_with fail
        go_ret
        refine ⟨ret_bool (by simp [h3]; omega), ?_⟩
        go_grown
    · go_wp2_with fail
      go_ret
      refine ⟨ret_bool (by simp [h2]; omega), ?_⟩
      go_grown
  · go_wp2_with fail
    go_ret
    refine ⟨ret_bool (by simp [h1]; omega), ?_⟩
    go_grown

set_option maxHeartbeats 4000000 in
theorem ybox_any (s : Sym) (x y : Int) (w : World) : Calls Tryz.prog 11 #[symV s, ptV x y] w fun e w' => e = .returned (boxV (Sy.box s x y)) ∧ Below w.heap.size w w' := by
  unfold symV ptV
  by_cases hw : 0 ≤ s.w ∧ s.w ≤ 64
  rotate_left
  · have HB : Hid (Sy.box s x y = (0, 0, 0, 0)) := Lib.hid (by unfold Sy.box; rw [if_neg (fun h => hw h.1)])
    go_enter Tryz.func11, Tryz.ntmps11
    go_wp2_with fail
    refine (side_at _ false _ (decide_eq_false hw)).mono ?_
    first | rintro e w1 rfl rfl | rintro e w1 ⟨rfl, rfl⟩
    go_wp2_with fail
    refine bodyPost_ret (v := boxV (0, 0, 0, 0)) (by simp [results, Tryz.results11, go_sem, boxV]) rfl ?_
    rw [HB.out]
    refine ⟨rfl, ?_⟩
    go_grown
  by_cases hh : 0 ≤ s.h ∧ s.h ≤ 64
  rotate_left
  · have HB : Hid (Sy.box s x y = (0, 0, 0, 0)) := Lib.hid (by unfold Sy.box; rw [if_neg (fun h => hh h.2.1)])
    go_enter Tryz.func11, Tryz.ntmps11
    go_wp2_with fail
    refine (side_at _ true _ (decide_eq_true hw)).mono ?_
    first | rintro e w1 rfl rfl | rintro e w1 ⟨rfl, rfl⟩
    go_wp2_with fail
    refine (side_at _ false _ (decide_eq_false hh)).mono ?_
    first | rintro e w1 rfl rfl | rintro e w1 ⟨rfl, rfl⟩
    go_wp2_with fail
    refine bodyPost_ret (v := boxV (0, 0, 0, 0)) (by simp [results, Tryz.results11, go_sem, boxV]) rfl ?_
    rw [HB.out]
    refine ⟨rfl, ?_⟩
    go_grown
  by_cases hx : -1048576 ≤ x ∧ x ≤ 1048576
  rotate_left
  · have HB : Hid (Sy.box s x y = (0, 0, 0, 0)) := Lib.hid (by unfold Sy.box; rw [if_neg (fun h => hx h.2.2.1)])
    go_enter Tryz.func11, Tryz.ntmps11
    go_wp2_with fail
    refine (side_at _ true _ (decide_eq_true hw)).mono ?_
    first | rintro e w1 rfl rfl | rintro e w1 ⟨rfl, rfl⟩
    go_wp2_with fail
    refine (side_at _ true _ (decide_eq_true hh)).mono ?_
    first | rintro e w1 rfl rfl | rintro e w1 ⟨rfl, rfl⟩
    go_wp2_with fail
    refine (yvalid_at _ false _ (decide_eq_false hx)).mono ?_
    first | rintro e w1 rfl rfl | rintro e w1 ⟨rfl, rfl⟩
    go_wp2_with fail
    refine bodyPost_ret (v := boxV (0, 0, 0, 0)) (by simp [results, Tryz.results11, go_sem, boxV]) rfl ?_
    rw [HB.out]
    refine ⟨rfl, ?_⟩
    go_grown
  by_cases hy : -1048576 ≤ y ∧ y ≤ 1048576
  rotate_left
  · have HB : Hid (Sy.box s x y = (0, 0, 0, 0)) := Lib.hid (by unfold Sy.box; rw [if_neg (fun h => hy h.2.2.2)])
    go_enter Tryz.func11, Tryz.ntmps11
    go_wp2_with fail
    refine (side_at _ true _ (decide_eq_true hw)).mono ?_
    first | rintro e w1 rfl rfl | rintro e w1 ⟨rfl, rfl⟩
    go_wp2_with fail
    refine (side_at _ true _ (decide_eq_true hh)).mono ?_
    first | rintro e w1 rfl rfl | rintro e w1 ⟨rfl, rfl⟩
    go_wp2_with fail
    refine (yvalid_at _ true _ (decide_eq_true hx)).mono ?_
    first | rintro e w1 rfl rfl | rintro e w1 ⟨rfl, rfl⟩
    go_wp2_with fail
    refine (yvalid_at _ false _ (decide_eq_false hy)).mono ?_
    first | rintro e w1 rfl rfl | rintro e w1 ⟨rfl, rfl⟩
    go_wp2_with fail
    refine bodyPost_ret (v := boxV (0, 0, 0, 0)) (by simp [results, Tryz.results11, go_sem, boxV]) rfl ?_
    rw [HB.out]
    refine ⟨rfl, ?_⟩
    go_grown
  have HB : Hid (Sy.box s x y = (x - s.w / 2, y - s.h / 2, x - s.w / 2 + s.w, y - s.h / 2 + s.h)) := Lib.hid (by unfold Sy.box; rw [if_pos ⟨hw, hh, hx, hy⟩])
  go_enter Tryz.func11, Tryz.ntmps11
  go_wp2_with fail
  refine (side_at _ true _ (decide_eq_true hw)).mono ?_
  first | rintro e w1 rfl rfl | rintro e w1 ⟨rfl, rfl⟩
  go_wp2_with fail
  refine (side_at _ true _ (decide_eq_true hh)).mono ?_
  first | rintro e w1 rfl rfl | rintro e w1 ⟨rfl, rfl⟩
  go_wp2_with fail
  refine (yvalid_at _ true _ (decide_eq_true hx)).mono ?_
  first | rintro e w1 rfl rfl | rintro e w1 ⟨rfl, rfl⟩
  go_wp2_with fail
  refine (yvalid_at _ true _ (decide_eq_true hy)).mono ?_
  first | rintro e w1 rfl rfl | rintro e w1 ⟨rfl, rfl⟩
  obtain ⟨w1, w2⟩ := hw
  obtain ⟨h1, h2⟩ := hh
  obtain ⟨x1, x2⟩ := hx
  obtain ⟨y1, y2⟩ := hy
  go_wp2_with fail
  refine bodyPost_ret (v := boxV (x - s.w / 2, y - s.h / 2, x - s.w / 2 + s.w, y - s.h / 2 + s.h)) (by simp [results, Tryz.results11, go_sem, boxV]) rfl ?_
  rw [HB.out]
  refine ⟨rfl, ?_⟩
  go_grown
end Go.Proofs.YtdbhijkfhcgojaaGreatDoor
