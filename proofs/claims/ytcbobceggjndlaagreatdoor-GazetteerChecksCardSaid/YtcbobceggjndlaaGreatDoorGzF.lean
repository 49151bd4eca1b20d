/-
  Series of sheets and grid squares, at the example: the series of 2 sheets of 16 by 16, the point 3, 2.
-/
import Derived.Test.YtcbobceggjndlaaGreatDoorGzE
import Derived.Laws.EntriesVeiled
set_option linter.unusedVariables false
set_option linter.unusedSimpArgs false
namespace Go.Proofs.YtcbobceggjndlaaGreatDoor
open Go.RowKit

theorem from_any (n lo hi : Int) (w : World) :
    Calls Tryz.prog 87 #[.int .i64 n, .int .i64 lo, .int .i64 hi] w fun e w' => e = .returned (.bool (decide (lo ≤ n ∧ n ≤ hi))) ∧ w = w' := by
  go_enter Tryz.func87, Tryz.ntmps87
  go_wp2_with fail
  all_goals
    go_ret
    refine ⟨ret_bool (Bool.eq_iff_iff.2 ?_), rfl⟩
    simp
    try omega
theorem from_yes (n lo hi : Int) (w : World) (h : lo ≤ n ∧ n ≤ hi) :
    Calls Tryz.prog 87 #[.int .i64 n, .int .i64 lo, .int .i64 hi] w fun e w' => e = .returned (.bool true) ∧ w = w' := by
  have := from_any n lo hi w
  rwa [decide_eq_true h] at this
theorem valid_yes (x y : Int) (p : Nat) (w : World) (hp : w.cell? ⟨p, 0, none⟩ = some (.func (.func 87) #[] #[])) (h1 : -1048576 ≤ x ∧ x ≤ 1048576) (h2 : -1048576 ≤ y ∧ y ≤ 1048576) :
    Calls Tryz.prog 88 #[.int .i64 x, .int .i64 y, .pointer (some ⟨p, 0, none⟩)] w fun e w' => e = .returned (.bool true) ∧ w = w' := by
  go_enter Tryz.func88, Tryz.ntmps88
  have H1 := Lib.hid h1
  have H2 := Lib.hid h2
  clear h1 h2
  go_wp2_with fail
  refine (from_yes _ _ _ _ H1.out).mono ?_
  first | rintro e w1 rfl rfl | rintro e w1 ⟨rfl, rfl⟩
  go_wp2_with fail
  refine (from_yes _ _ _ _ H2.out).mono ?_
  first | rintro e w1 rfl rfl | rintro e w1 ⟨rfl, rfl⟩
  go_wp2_with fail
  go_ret
  exact ⟨rfl, rfl⟩
set_option maxHeartbeats 8000000 in
theorem sgcheck_ex (w : World) : Calls Tryz.prog 55 #[.agg #[.int .i64 0, .int .i64 0, .int .i64 16, .int .i64 16, .int .i64 2, .int .i64 1]] w fun e w' => e = .returned (.int .i64 0) ∧ Below w.heap.size w w' := by
  go_enter Tryz.func55, Tryz.ntmps55
  go_wp2_with (first | (go_at_call 88; refine (valid_yes _ _ _ _ (by simp) (by omega) (by omega)).mono ?_; first | rintro e w1 rfl rfl | rintro e w1 ⟨rfl, rfl⟩) | (go_at_call 87; refine (from_yes _ _ _ _ (by omega)).mono ?_; first | rintro e w1 rfl rfl | rintro e w1 ⟨rfl, rfl⟩))
  go_ret
  exact ⟨rfl, by go_grown⟩
set_option maxHeartbeats 8000000 in
theorem sgfind_ex (w : World) : Calls Tryz.prog 53 #[.agg #[.int .i64 0, .int .i64 0, .int .i64 16, .int .i64 16, .int .i64 2, .int .i64 1], .int .i64 1] w fun e w' => e = .returned (.tuple #[.int .i64 0, .int .i64 0, .int .i64 0]) ∧ Below w.heap.size w w' := by
  go_enter Tryz.func53, Tryz.ntmps53
  have k0 := Bk.new w #[.int .i64 0, .int .i64 0, .int .i64 16, .int .i64 16, .int .i64 2, .int .i64 1] 47
  go_wp2_with (go_at_call 55; refine (sgcheck_ex _).mono ?_)
  first | rintro e w1 rfl hb1 | rintro e w1 ⟨rfl, hb1⟩
  have k1 := k0.below hb1 (by simp)
  have c4 : w1.cell? ⟨w.heap.size, 4, none⟩ = some (.int .i64 2) := k1.cell 4
  have c5 : w1.cell? ⟨w.heap.size, 5, none⟩ = some (.int .i64 1) := k1.cell 5
  have hb01 : Below w.heap.size w w1 := Below.trans ((Below.refl _ _).alloc (Nat.le_refl _) _) (hb1.mono (by simp))
  clear k0 k1
  go_wp2_with fail
  go_region
  all_goals
    go_wp2_with fail
    refine bodyPost_ret (v := .tuple #[.int .i64 0, .int .i64 0, .int .i64 0]) (by simp [results, Tryz.results53, go_sem]) rfl ?_
    exact ⟨rfl, hb01.drew⟩
set_option maxHeartbeats 8000000 in
theorem sgbox_ex (w : World) : Calls Tryz.prog 20 #[.agg #[.int .i64 0, .int .i64 0, .int .i64 16, .int .i64 16, .int .i64 2, .int .i64 1], .int .i64 1] w fun e w' => (∃ v, e = .returned (.tuple #[v, .int .i64 0])) ∧ Below w.heap.size w w' := by
  go_enter Tryz.func20, Tryz.ntmps20
  go_upto_region 1 with fail
  obtain ⟨W1, hW⟩ : ∃ X, (w.alloc (.cells #[.int .i64 0, .int .i64 0, .int .i64 16, .int .i64 16, .int .i64 2, .int .i64 1] 47)).alloc (.cells #[.int .i64 0, .int .i64 0, .int .i64 0, .int .i64 0] 49) = X := ⟨_, rfl⟩
  have b1 : Below w.heap.size w W1 := by rw [← hW]; exact ((Below.refl _ _).alloc (Nat.le_refl _) _).alloc (by simp) _
  have k0 : Bk W1 w.heap.size 47 #[.int .i64 0, .int .i64 0, .int .i64 16, .int .i64 16, .int .i64 2, .int .i64 1] := by rw [← hW]; exact (Bk.new _ _ _).below ((Below.refl _ _).alloc (Nat.le_refl _) _) (by simp)
  have k1 : Bk W1 (w.heap.size + 1) 49 #[.int .i64 0, .int .i64 0, .int .i64 0, .int .i64 0] := by
    rw [← hW]
    have := Bk.new (w.alloc (.cells #[.int .i64 0, .int .i64 0, .int .i64 16, .int .i64 16, .int .i64 2, .int .i64 1] 47)) #[.int .i64 0, .int .i64 0, .int .i64 0, .int .i64 0] 49
    simpa using this
  rw [hW]
  clear hW
  have l0 := k0.lt
  have l1 := k1.lt
  have c0 := k0.cell 0
  have c1 := k0.cell 1
  have c2 := k0.cell 2
  have c3 := k0.cell 3
  have c4 := k0.cell 4
  have c5 := k0.cell 5
  simp only [List.getElem?_toArray, List.getElem?_cons_zero, List.getElem?_cons_succ] at c0 c1 c2 c3 c4 c5
  go_wp2_with (go_at_call 53; refine (sgfind_ex _).mono ?_)
  clear c0 c1 c2 c3 c4 c5
  first | rintro e w1 rfl hb1 | rintro e w1 ⟨rfl, hb1⟩
  have j0 := k0.below hb1 l0
  have j1 := k1.below hb1 l1
  have c0 := j0.cell 0
  have c1 := j0.cell 1
  have c2 := j0.cell 2
  have c3 := j0.cell 3
  have d0 := j1.cell 0
  have d1 := j1.cell 1
  have d2 := j1.cell 2
  have d3 := j1.cell 3
  have f0 := j1.frozen 0
  have f1 := j1.frozen 1
  have f2 := j1.frozen 2
  have f3 := j1.frozen 3
  simp only [List.getElem?_toArray, List.getElem?_cons_zero, List.getElem?_cons_succ] at c0 c1 c2 c3 d0 d1 d2 d3
  go_wp2_with fail
  have hb01 := b1.trans (hb1.mono b1.size)
  obtain ⟨X, hX⟩ : ∃ X, ((((((((w1.setCell ⟨w.heap.size + 1, 0, none⟩ (.int .i64 0)).setCell ⟨w.heap.size + 1, 1, none⟩ (.int .i64 0)).setCell ⟨w.heap.size + 1, 2, none⟩ (.int .i64 16)).setCell ⟨w.heap.size + 1, 3, none⟩ (.int .i64 16)).setCell ⟨w.heap.size + 1, 0, none⟩ (.int .i64 0)).setCell ⟨w.heap.size + 1, 1, none⟩ (.int .i64 0)).setCell ⟨w.heap.size + 1, 2, none⟩ (.int .i64 16)).setCell ⟨w.heap.size + 1, 3, none⟩ (.int .i64 16)) = X := ⟨_, rfl⟩
  have q : Bk X (w.heap.size + 1) 49 #[.int .i64 0, .int .i64 0, .int .i64 16, .int .i64 16] := by rw [← hX]; exact ((((((((j1.setAt 0 (.int .i64 0)).setAt 1 (.int .i64 0)).setAt 2 (.int .i64 16)).setAt 3 (.int .i64 16)).setAt 0 (.int .i64 0)).setAt 1 (.int .i64 0)).setAt 2 (.int .i64 16)).setAt 3 (.int .i64 16))
  have bX : Below w.heap.size w X := by rw [← hX]; exact ((((((((hb01.setCell (p := ⟨w.heap.size + 1, 0, none⟩) (by simp) (.int .i64 0)).setCell (p := ⟨w.heap.size + 1, 1, none⟩) (by simp) (.int .i64 0)).setCell (p := ⟨w.heap.size + 1, 2, none⟩) (by simp) (.int .i64 16)).setCell (p := ⟨w.heap.size + 1, 3, none⟩) (by simp) (.int .i64 16)).setCell (p := ⟨w.heap.size + 1, 0, none⟩) (by simp) (.int .i64 0)).setCell (p := ⟨w.heap.size + 1, 1, none⟩) (by simp) (.int .i64 0)).setCell (p := ⟨w.heap.size + 1, 2, none⟩) (by simp) (.int .i64 16)).setCell (p := ⟨w.heap.size + 1, 3, none⟩) (by simp) (.int .i64 16))
  rw [hX]
  clear hX d0 d1 d2 d3 f0 f1 f2 f3
  have e0 := q.cell 0
  have e1 := q.cell 1
  have e2 := q.cell 2
  have e3 := q.cell 3
  simp only [List.getElem?_toArray, List.getElem?_cons_zero, List.getElem?_cons_succ] at e0 e1 e2 e3
  refine bodyPost_ret (v := .tuple #[.agg #[.int .i64 0, .int .i64 0, .int .i64 16, .int .i64 16], .int .i64 0]) (by simp [results, Tryz.results20, go_sem, e0, e1, e2, e3]) rfl ?_
  exact ⟨⟨_, rfl⟩, bX⟩
set_option maxHeartbeats 8000000 in
theorem locate_a (w : World) : Calls Tryz.prog 56 #[.int .i64 3, .int .i64 16, .int .i64 2] w fun e w' => e = .returned (.tuple #[.int .i64 0, .int .i64 1]) ∧ w = w' := by
  go_enter Tryz.func56, Tryz.ntmps56
  go_wp2_with fail
  refine bodyPost_ret (v := .tuple #[.int .i64 0, .int .i64 1]) (by simp [results, Tryz.results56, go_sem]; decide) rfl ?_
  exact ⟨rfl, rfl⟩
set_option maxHeartbeats 8000000 in
theorem locate_b (w : World) : Calls Tryz.prog 56 #[.int .i64 2, .int .i64 16, .int .i64 1] w fun e w' => e = .returned (.tuple #[.int .i64 0, .int .i64 1]) ∧ w = w' := by
  go_enter Tryz.func56, Tryz.ntmps56
  go_wp2_with fail
  refine bodyPost_ret (v := .tuple #[.int .i64 0, .int .i64 1]) (by simp [results, Tryz.results56, go_sem]; decide) rfl ?_
  exact ⟨rfl, rfl⟩
set_option maxHeartbeats 8000000 in
theorem sgname_ex (w : World) : Calls Tryz.prog 57 #[.agg #[.int .i64 0, .int .i64 0, .int .i64 16, .int .i64 16, .int .i64 2, .int .i64 1], .int .i64 1] w fun e w' => e = .returned (.tuple #[.string ⟨#[65, 49]⟩, .int .i64 0]) ∧ Below w.heap.size w w' := by
  go_enter Tryz.func57, Tryz.ntmps57
  have k0 := Bk.new w #[.int .i64 0, .int .i64 0, .int .i64 16, .int .i64 16, .int .i64 2, .int .i64 1] 47
  go_wp2_with (go_at_call 53; refine (sgfind_ex _).mono ?_)
  first | rintro e w1 rfl hb1 | rintro e w1 ⟨rfl, hb1⟩
  have hb01 : Below w.heap.size w w1 := Below.trans ((Below.refl _ _).alloc (Nat.le_refl _) _) (hb1.mono (by simp))
  clear k0
  go_wp2_with (go_at_call 89; refine (Tryz.strconv_Itoa_small 1 (by decide) _).mono ?_)
  have hd : (⟨(Lib.decDigits 1).toArray⟩ : ByteArray) = ⟨#[49]⟩ := by decide +kernel
  have he : Utf8.encode 65 = ⟨#[65]⟩ := by decide +kernel
  rw [hd, he]
  clear hd he
  rintro e w2 ⟨rfl, rfl⟩
  go_wp2_with fail
  refine bodyPost_ret (v := .tuple #[.string ⟨#[65, 49]⟩, .int .i64 0]) (by simp [results, Tryz.results57, go_sem]; decide +kernel) rfl ?_
  exact ⟨rfl, hb01⟩
end Go.Proofs.YtcbobceggjndlaaGreatDoor
