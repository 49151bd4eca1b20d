/-
  Grid squares, at the example.
-/
import Derived.Test.YtcbobceggjndlaaGreatDoorGzF
set_option linter.unusedVariables false
set_option linter.unusedSimpArgs false
namespace Go.Proofs.YtcbobceggjndlaaGreatDoor
open Go.RowKit

set_option maxRecDepth 4000 in
set_option maxHeartbeats 16000000 in
theorem grsquare_ex (w : World) : Calls Tryz.prog 22 #[.agg #[.int .i64 0, .int .i64 0, .int .i64 16, .int .i64 16, .int .i64 2, .int .i64 1], .agg #[.int .i64 3, .int .i64 2]] w fun e w' => e = .returned (.tuple #[.string ⟨#[65, 49, 45, 98, 50]⟩, .int .i64 0]) ∧ Below w.heap.size w w' := by
  go_enter Tryz.func22, Tryz.ntmps22
  go_upto_region 1 with fail
  obtain ⟨W1, hW⟩ : ∃ X, (w.alloc (.cells #[.int .i64 0, .int .i64 0, .int .i64 16, .int .i64 16, .int .i64 2, .int .i64 1] 47)).alloc (.cells #[.int .i64 3, .int .i64 2] 31) = X := ⟨_, rfl⟩
  have b1 : Below w.heap.size w W1 := by rw [← hW]; exact ((Below.refl _ _).alloc (Nat.le_refl _) _).alloc (by simp) _
  have k0 : Bk W1 w.heap.size 47 #[.int .i64 0, .int .i64 0, .int .i64 16, .int .i64 16, .int .i64 2, .int .i64 1] := by rw [← hW]; exact (Bk.new _ _ _).below ((Below.refl _ _).alloc (Nat.le_refl _) _) (by simp)
  have k1 : Bk W1 (w.heap.size + 1) 31 #[.int .i64 3, .int .i64 2] := by
    rw [← hW]
    have := Bk.new (w.alloc (.cells #[.int .i64 0, .int .i64 0, .int .i64 16, .int .i64 16, .int .i64 2, .int .i64 1] 47)) #[.int .i64 3, .int .i64 2] 31
    simpa using this
  rw [hW]
  clear hW
  have l0 := k0.lt
  have l1 := k1.lt
  have c0 := k0.cell 0
  have c1 := k0.cell 1
  have c2 := k0.cell 2
  have c3 := k0.cell 3
  have c4 := k0.cell 4
  have c5 := k0.cell 5
  simp only [List.getElem?_toArray, List.getElem?_cons_zero, List.getElem?_cons_succ] at c0 c1 c2 c3 c4 c5
  go_wp2_with (go_at_call 55; refine (sgcheck_ex _).mono ?_)
  clear c0 c1 c2 c3 c4 c5
  first | rintro e w1 rfl hb1 | rintro e w1 ⟨rfl, hb1⟩
  have j0 := k0.below hb1 l0
  have j1 := k1.below hb1 l1
  have m0 := j0.lt
  have m1 := j1.lt
  have c0 := j0.cell 0
  have c1 := j0.cell 1
  have c2 := j0.cell 2
  have c3 := j0.cell 3
  have c4 := j0.cell 4
  have c5 := j0.cell 5
  have d0 := j1.cell 0
  have d1 := j1.cell 1
  simp only [List.getElem?_toArray, List.getElem?_cons_zero, List.getElem?_cons_succ] at c0 c1 c2 c3 c4 c5 d0 d1
  have hb01 := b1.trans (hb1.mono b1.size)
  go_upto_region 6 with fail
  clear c2 c3 c4 c5
  have c2 := j0.cell 2
  have c4 := j0.cell 4
  simp only [List.getElem?_toArray, List.getElem?_cons_zero, List.getElem?_cons_succ] at c2 c4
  go_upto_region 7 with (go_at_call 56; refine (locate_a _).mono ?_; first | rintro e w2 rfl rfl | rintro e w2 ⟨rfl, rfl⟩)
  clear c2 c4
  have c3 := j0.cell 3
  have c5 := j0.cell 5
  simp only [List.getElem?_toArray, List.getElem?_cons_zero, List.getElem?_cons_succ] at c3 c5
  go_upto_region 8 with (go_at_call 56; refine (locate_b _).mono ?_; first | rintro e w2 rfl rfl | rintro e w2 ⟨rfl, rfl⟩)
  have c2 := j0.cell 2
  have c4 := j0.cell 4
  simp only [List.getElem?_toArray, List.getElem?_cons_zero, List.getElem?_cons_succ] at c2 c4
  go_upto_region 9 with (go_at_call 57; refine (sgname_ex _).mono ?_; first | rintro e w3 rfl hb3 | rintro e w3 ⟨rfl, hb3⟩)
  clear c0 c1 c2 c3 c4 c5 d0 d1 j0 j1 k0 k1
  have hb03 := hb01.trans (hb3.mono hb01.size)
  clear hb3 hb1 hb01 b1
  have hcv := conv_new [45, 98, 50] (by decide) w3
  simp only [List.map_cons, List.map_nil, List.length_cons, List.length_nil] at hcv
  have x1 : IntKind.u8.wrap 1 = 1 := by decide
  have x2 : IntKind.u8.wrap 98 = 98 := by decide
  have x3 : IntKind.u8.wrap 50 = 50 := by decide
  go_wp2_with fail
  refine bodyPost_ret (v := .tuple #[.string ⟨#[65, 49, 45, 98, 50]⟩, .int .i64 0]) (by simp [results, Tryz.results22, go_sem]; decide +kernel) rfl ?_
  exact ⟨rfl, hb03.alloc hb03.size _⟩
end Go.Proofs.YtcbobceggjndlaaGreatDoor
