/-
  Symbols: Box of the reference.
-/
import Derived.Test.YtdbhijkfhcgojaaGreatDoorSyA
set_option linter.unusedVariables false
set_option linter.unusedSimpArgs false
namespace Go.Proofs.YtdbhijkfhcgojaaGreatDoor
open Go.RowKit

theorem rsize_small (a : Int) (w : World) (h1 : 0 ≤ a) (h2 : a ≤ 64) : Calls Tryz.prog 41 #[.int .i64 a] w fun e w' => e = .returned (.int .u64 a) ∧ w = w' := by
  go_enter Tryz.func41, Tryz.ntmps41
  go_wp2_with fail
  go_ret
  exact ⟨ret_int (by first | rfl | (simp; omega) | go_arith), rfl⟩
theorem rsize2 (w : World) : Calls Tryz.prog 41 #[.int .i64 2] w fun e w' => e = .returned (.int .u64 2) ∧ w = w' := by
  go_enter Tryz.func41, Tryz.ntmps41
  go_wp2_with fail
  go_ret
  exact ⟨rfl, rfl⟩
theorem rin_any (n lo hi : Int) (w : World) : Calls Tryz.prog 17 #[.int .i64 n, .int .i64 lo, .int .i64 hi] w fun e w' => e = .returned (.bool (decide (lo ≤ n ∧ n ≤ hi))) ∧ w = w' := by
  go_enter Tryz.func17, Tryz.ntmps17
  by_cases h : lo ≤ n
  · go_wp2_with fail
    go_ret
    exact ⟨ret_bool (by simp [h]), rfl⟩
  · go_wp2_with fail
    go_ret
    exact ⟨ret_bool (by simp [h]; omega), rfl⟩
theorem rin_at (n lo hi : Int) (b : Bool) (w : World) (h : decide (lo ≤ n ∧ n ≤ hi) = b) : Calls Tryz.prog 17 #[.int .i64 n, .int .i64 lo, .int .i64 hi] w fun e w' => e = .returned (.bool b) ∧ w = w' := by
  subst h; exact rin_any n lo hi w
theorem rpoint_any (x y : Int) (w : World) : Calls Tryz.prog 21 #[ptV x y] w fun e w' => e = .returned (.bool (decide ((-1048576 ≤ x ∧ x ≤ 1048576) ∧ (-1048576 ≤ y ∧ y ≤ 1048576)))) ∧ Below w.heap.size w w' := by
  unfold ptV
  go_enter Tryz.func21, Tryz.ntmps21
  by_cases h1 : -1048576 ≤ x
  · by_cases h2 : x ≤ 1048576
    · by_cases h3 : -1048576 ≤ y
      · go_wp2_with fail
        go_ret
        refine ⟨ret_bool (by simp [h1, h2, h3]), ?_⟩
        go_grown
      · go_wp2_with fail
        go_ret
        refine ⟨ret_bool (by simp [h1, h2, h3]; try omega), ?_⟩
        go_grown
    · go_wp2_with fail
      go_ret
      refine ⟨ret_bool (by simp [h1, h2]; try omega), ?_⟩
      go_grown
  · go_wp2_with fail
    go_ret
    refine ⟨ret_bool (by simp [h1]; try omega), ?_⟩
    go_grown

set_option maxHeartbeats 2000000 in
theorem rparts2 (a : Int) (w : World) (h1 : 0 ≤ a) (h2 : a ≤ 64) : Calls Tryz.prog 27 #[.int .i64 a, .int .i64 2] w fun e w' => e = .returned (.tuple #[.int .u64 (a / 2), .int .u64 (a % 2), .bool false]) ∧ Below w.heap.size w w' := by
  go_enter Tryz.func27, Tryz.ntmps27
  go_wp2_with fail
  have hA := Lib.hid (fun W => rsize_small a W h1 h2)
  have hB := Lib.hid rsize2
  have g1 : decide (a < 0) = false := decide_eq_false (by omega)
  by_cases h0 : 0 < a
  · have g2 : decide (0 < a) = true := decide_eq_true h0
    go_quiet (first | (go_at_call_of 41 (Value.int IntKind.i64 a); exact Calls.quiet_of_same ((hA.out _).mono (fun _ _ h => ⟨h.1, h.2.symm⟩))) | (go_at_call 41; exact Calls.quiet_of_same ((hB.out _).mono (fun _ _ h => ⟨h.1, h.2.symm⟩))))
    go_wp2_with fail
    go_ret3
    exact ⟨rfl, below_drewN (Below.refl _ _) _⟩
  · have g2 : decide (0 < a) = false := decide_eq_false h0
    go_quiet (first | (go_at_call_of 41 (Value.int IntKind.i64 a); exact Calls.quiet_of_same ((hA.out _).mono (fun _ _ h => ⟨h.1, h.2.symm⟩))) | (go_at_call 41; exact Calls.quiet_of_same ((hB.out _).mono (fun _ _ h => ⟨h.1, h.2.symm⟩))))
    go_wp2_with fail
    go_ret3
    exact ⟨rfl, below_drewN (Below.refl _ _) _⟩
theorem rsigned_pos (q : Int) (w : World) (h1 : 0 ≤ q) (h2 : q ≤ 64) : Calls Tryz.prog 28 #[.bool false, .int .u64 q] w fun e w' => e = .returned (.tuple #[.int .i64 q, .int .i64 0]) ∧ w = w' := by
  go_enter Tryz.func28, Tryz.ntmps28
  have g1 : (q == 9223372036854775808) = false := by rw [beq_eq_false_iff_ne]; omega
  have g2 : decide (9223372036854775808 < q) = false := decide_eq_false (by omega)
  go_wp2_with fail
  go_ret2
  exact ⟨rfl, rfl⟩
theorem rfloor2 (a : Int) (w : World) (h1 : 0 ≤ a) (h2 : a ≤ 64) : Calls Tryz.prog 22 #[.int .i64 a, .int .i64 2] w fun e w' => e = .returned (.tuple #[.int .i64 (a / 2), .int .i64 0]) ∧ Below w.heap.size w w' := by
  go_enter Tryz.func22, Tryz.ntmps22
  go_wp2_with fail
  refine (rparts2 a _ h1 h2).mono ?_
  first | rintro e w1 rfl hb1 | rintro e w1 ⟨rfl, hb1⟩
  go_wp2_with fail
  refine (rsigned_pos (a / 2) _ (by omega) (by omega)).mono ?_
  first | rintro e w2 rfl rfl | rintro e w2 ⟨rfl, rfl⟩
  go_wp2_with fail
  go_ret2
  exact ⟨rfl, hb1⟩
theorem rpoint_at (x y : Int) (b : Bool) (w : World) (h : decide ((-1048576 ≤ x ∧ x ≤ 1048576) ∧ (-1048576 ≤ y ∧ y ≤ 1048576)) = b) : Calls Tryz.prog 21 #[ptV x y] w fun e w' => e = .returned (.bool b) ∧ Below w.heap.size w w' := by
  subst h; exact rpoint_any x y w

set_option maxHeartbeats 4000000 in
theorem rybox_any (s : Sym) (x y : Int) (w : World) : Calls Tryz.prog 12 #[symV s, ptV x y] w fun e w' => e = .returned (boxV (Sy.box s x y)) ∧ Below w.heap.size w w' := by
  have HPT := Lib.hid (fun b W h => rpoint_at x y b W h)
  unfold symV ptV at *
  obtain ⟨W1, hW1⟩ : ∃ W, ((w.alloc (.cells #[.int .i64 s.kind, .int .i64 s.cls, .int .i64 s.w, .int .i64 s.h, .int .i64 s.l, .int .i64 s.i0, .int .i64 s.i1, .int .i64 s.i2, .int .i64 s.i3] 26)).alloc (.cells #[.int .i64 x, .int .i64 y] 33)).alloc (.cells #[.int .i64 0, .int .i64 0, .int .i64 0, .int .i64 0] 35) = W := ⟨_, rfl⟩
  have hb1 : Below w.heap.size w W1 := by rw [← hW1]; exact (((Below.refl _ _).alloc (Nat.le_refl _) _).alloc (by simp) _).alloc (by simp; omega) _
  have k0 : Bk W1 w.heap.size 26 #[.int .i64 s.kind, .int .i64 s.cls, .int .i64 s.w, .int .i64 s.h, .int .i64 s.l, .int .i64 s.i0, .int .i64 s.i1, .int .i64 s.i2, .int .i64 s.i3] := by rw [← hW1]; exact Bk.alloc (Bk.alloc (Bk.new _ _ _) _) _
  have k1 : Bk W1 (w.heap.size + 1) 33 #[.int .i64 x, .int .i64 y] := by
    rw [← hW1]
    have := Bk.new (w.alloc (.cells #[.int .i64 s.kind, .int .i64 s.cls, .int .i64 s.w, .int .i64 s.h, .int .i64 s.l, .int .i64 s.i0, .int .i64 s.i1, .int .i64 s.i2, .int .i64 s.i3] 26)) #[.int .i64 x, .int .i64 y] 33
    rw [show (w.alloc (.cells #[.int .i64 s.kind, .int .i64 s.cls, .int .i64 s.w, .int .i64 s.h, .int .i64 s.l, .int .i64 s.i0, .int .i64 s.i1, .int .i64 s.i2, .int .i64 s.i3] 26)).heap.size = w.heap.size + 1 by simp] at this
    exact Bk.alloc this _
  have k2 : Bk W1 (w.heap.size + 1 + 1) 35 #[.int .i64 0, .int .i64 0, .int .i64 0, .int .i64 0] := by
    rw [← hW1]
    have := Bk.new ((w.alloc (.cells #[.int .i64 s.kind, .int .i64 s.cls, .int .i64 s.w, .int .i64 s.h, .int .i64 s.l, .int .i64 s.i0, .int .i64 s.i1, .int .i64 s.i2, .int .i64 s.i3] 26)).alloc (.cells #[.int .i64 x, .int .i64 y] 33)) #[.int .i64 0, .int .i64 0, .int .i64 0, .int .i64 0] 35
    rw [show ((w.alloc (.cells #[.int .i64 s.kind, .int .i64 s.cls, .int .i64 s.w, .int .i64 s.h, .int .i64 s.l, .int .i64 s.i0, .int .i64 s.i1, .int .i64 s.i2, .int .i64 s.i3] 26)).alloc (.cells #[.int .i64 x, .int .i64 y] 33)).heap.size = w.heap.size + 1 + 1 by simp] at this
    exact this
  have HW1 := Lib.hid hW1
  clear hW1
  go_enter Tryz.func12, Tryz.ntmps12
  by_cases hw : 0 ≤ s.w ∧ s.w ≤ 64
  rotate_left
  · have HB : Hid (Sy.box s x y = (0, 0, 0, 0)) := Lib.hid (by unfold Sy.box; rw [if_neg (fun h => hw h.1)])
    clear k0 k1 k2 HW1
    go_wp2_with fail
    refine (rin_at _ _ _ false _ (decide_eq_false hw)).mono ?_
    first | rintro e w1 rfl rfl | rintro e w1 ⟨rfl, rfl⟩
    go_wp2_with fail
    refine bodyPost_ret (v := boxV (0, 0, 0, 0)) (by simp [results, Tryz.results12, go_sem, boxV]) rfl ?_
    rw [HB.out]
    refine ⟨rfl, ?_⟩
    go_grown
  by_cases hh : 0 ≤ s.h ∧ s.h ≤ 64
  rotate_left
  · have HB : Hid (Sy.box s x y = (0, 0, 0, 0)) := Lib.hid (by unfold Sy.box; rw [if_neg (fun h => hh h.2.1)])
    clear k0 k1 k2 HW1
    go_wp2_with fail
    refine (rin_at _ _ _ true _ (decide_eq_true hw)).mono ?_
    first | rintro e w1 rfl rfl | rintro e w1 ⟨rfl, rfl⟩
    go_wp2_with fail
    refine (rin_at _ _ _ false _ (decide_eq_false hh)).mono ?_
    first | rintro e w1 rfl rfl | rintro e w1 ⟨rfl, rfl⟩
    go_wp2_with fail
    refine bodyPost_ret (v := boxV (0, 0, 0, 0)) (by simp [results, Tryz.results12, go_sem, boxV]) rfl ?_
    rw [HB.out]
    refine ⟨rfl, ?_⟩
    go_grown
  go_wp2_with fail
  refine (rin_at _ _ _ true _ (decide_eq_true hw)).mono ?_
  first | rintro e w1 rfl rfl | rintro e w1 ⟨rfl, rfl⟩
  go_wp2_with fail
  refine (rin_at _ _ _ true _ (decide_eq_true hh)).mono ?_
  first | rintro e w1 rfl rfl | rintro e w1 ⟨rfl, rfl⟩
  go_wp2_with fail
  rw [HW1.out]
  by_cases hxy : (-1048576 ≤ x ∧ x ≤ 1048576) ∧ (-1048576 ≤ y ∧ y ≤ 1048576)
  rotate_left
  · have HB : Hid (Sy.box s x y = (0, 0, 0, 0)) := Lib.hid (by unfold Sy.box; rw [if_neg (fun h => hxy ⟨h.2.2.1, h.2.2.2⟩)])
    refine (HPT.out false _ (decide_eq_false hxy)).mono ?_
    first | rintro e w2 rfl hb2 | rintro e w2 ⟨rfl, hb2⟩
    have k22 := k2.below hb2 k2.lt
    have q0 := k22.cell 0
    have q1 := k22.cell 1
    have q2 := k22.cell 2
    have q3 := k22.cell 3
    have f0 := k22.frozen 0
    have f1 := k22.frozen 1
    have f2 := k22.frozen 2
    have f3 := k22.frozen 3
    simp only [List.getElem?_toArray, List.getElem?_cons_zero, List.getElem?_cons_succ] at q0 q1 q2 q3
    clear HW1 HPT k0 k1 k2
    go_wp2_with fail
    refine bodyPost_ret (v := boxV (0, 0, 0, 0)) (by simp [results, Tryz.results12, go_sem, boxV, *]) rfl ?_
    rw [HB.out]
    refine ⟨rfl, ?_⟩
    have hb02 : Below w.heap.size w w2 := hb1.trans (hb2.mono hb1.size)
    go_grown
  have HB : Hid (Sy.box s x y = (x - s.w / 2, y - s.h / 2, x - s.w / 2 + s.w, y - s.h / 2 + s.h)) := Lib.hid (by unfold Sy.box; rw [if_pos ⟨hw, hh, hxy.1, hxy.2⟩])
  refine (HPT.out true _ (decide_eq_true hxy)).mono ?_
  first | rintro e w2 rfl hb2 | rintro e w2 ⟨rfl, hb2⟩
  have k02 := k0.below hb2 k0.lt
  have k12 := k1.below hb2 k1.lt
  have k22 := k2.below hb2 k2.lt
  have hb02 : Below w.heap.size w w2 := hb1.trans (hb2.mono hb1.size)
  clear HW1 HPT k0 k1 k2 hb1 hb2
  have p2 : w2.cell? ⟨w.heap.size, 2, none⟩ = some (.int .i64 s.w) := k02.cell 2
  go_wp2_with fail
  refine (rfloor2 _ _ hw.1 hw.2).mono ?_
  first | rintro e w3 rfl hb3 | rintro e w3 ⟨rfl, hb3⟩
  have k03 := k02.below hb3 k02.lt
  have k13 := k12.below hb3 k12.lt
  have k23 := k22.below hb3 k22.lt
  have hb03 : Below w.heap.size w w3 := hb02.trans (hb3.mono hb02.size)
  have p3 : w3.cell? ⟨w.heap.size, 3, none⟩ = some (.int .i64 s.h) := k03.cell 3
  clear p2 k02 k12 k22 hb02 hb3
  go_wp2_with fail
  refine (rfloor2 _ _ hh.1 hh.2).mono ?_
  first | rintro e w4 rfl hb4 | rintro e w4 ⟨rfl, hb4⟩
  have k04 := k03.below hb4 k03.lt
  have k14 := k13.below hb4 k13.lt
  have k24 := k23.below hb4 k23.lt
  have hb04 : Below w.heap.size w w4 := hb03.trans (hb4.mono hb03.size)
  have a2 : w4.cell? ⟨w.heap.size, 2, none⟩ = some (.int .i64 s.w) := k04.cell 2
  have a3 : w4.cell? ⟨w.heap.size, 3, none⟩ = some (.int .i64 s.h) := k04.cell 3
  have c0 : w4.cell? ⟨w.heap.size + 1, 0, none⟩ = some (.int .i64 x) := k14.cell 0
  have c1 : w4.cell? ⟨w.heap.size + 1, 1, none⟩ = some (.int .i64 y) := k14.cell 1
  have q0 := k24.cell 0
  have q1 := k24.cell 1
  have q2 := k24.cell 2
  have q3 := k24.cell 3
  have f0 := k24.frozen 0
  have f1 := k24.frozen 1
  have f2 := k24.frozen 2
  have f3 := k24.frozen 3
  simp only [List.getElem?_toArray, List.getElem?_cons_zero, List.getElem?_cons_succ] at q0 q1 q2 q3
  clear p3 k03 k13 k23 hb03 hb4
  obtain ⟨w1, w2'⟩ := hw
  obtain ⟨h1, h2⟩ := hh
  obtain ⟨⟨x1, x2⟩, y1, y2⟩ := hxy
  go_wp2_with fail
  refine bodyPost_ret (v := boxV (x - s.w / 2, y - s.h / 2, x - s.w / 2 + s.w, y - s.h / 2 + s.h)) (by simp [results, Tryz.results12, go_sem, boxV, *]) rfl ?_
  rw [HB.out]
  refine ⟨rfl, ?_⟩
  go_grown
end Go.Proofs.YtdbhijkfhcgojaaGreatDoor
