/-
  Walks of layer 7: the examples of the chapter (awake).
-/
import Derived.Test.YtlcjfphhogcenaaDoorNameK
set_option linter.unusedVariables false
set_option linter.unusedSimpArgs false
namespace Go.Proofs.YtlcjfphhogcenaaDoor
open Go.RowKit

def Nm.saint : List UInt8 := [83, 97, 105, 110, 116, 45, 68, 101, 110, 105, 115]
theorem ex_key : Nm.key [83, 97, 105, 110, 116, 45, 68, 101, 110, 105, 115] = [115, 97, 105, 110, 116, 100, 101, 110, 105, 115] := by decide +kernel
theorem ex_check : Nm.check [83, 97, 105, 110, 116, 45, 68, 101, 110, 105, 115] = 0 := by decide +kernel
theorem ex_cmp : Nm.cmp [83, 97, 105, 110, 116, 45, 68, 101, 110, 105, 115] [115, 97, 105, 110, 116, 32, 100, 101, 110, 105, 115] = -1 := by decide +kernel
theorem ex_check1 : Nm.check [] = 14 := by decide +kernel
theorem ex_check2 : Nm.check [49, 50, 45, 51, 52] = 14 := by decide +kernel
theorem ex_check3 : Nm.check [97, 32, 32, 98] = 14 := by decide +kernel
theorem ex_begins1 : Nm.begins [78, 101, 117, 115, 116, 97, 100, 116, 32, 40, 68, 111, 115, 115, 101, 41] [110, 101, 117, 115, 116] = true := by decide +kernel
theorem ex_begins2 : Nm.begins [110, 101, 117, 115, 116] [78, 101, 117, 115, 116, 97, 100, 116] = false := by decide +kernel
theorem ex_width : Nm.width [97, 32, 98] 6 = 11 := by decide +kernel
theorem ex_widthE : Nm.widthE [97, 32, 98] 6 = 0 := by decide +kernel

theorem nkey_ex (w : World) (ht : Gl.Tab w) (hm : MaxOk w) : Calls Tryd.prog 36 #[.string ⟨#[83, 97, 105, 110, 116, 45, 68, 101, 110, 105, 115]⟩] w fun e w' => Below w.heap.size w w' ∧ ∃ b o c, e = .returned (.tuple #[.slice (some ⟨b, o, none⟩) 10 c, .int .i64 0]) ∧ b < w'.heap.size ∧ w'.cell? ⟨b, o, none⟩ = some (.int .i64 115) := by
  refine (nkey_any _ w ht hm (by decide)).mono ?_
  rintro e w' ⟨hb, v, hv, rfl⟩
  rw [show Nm.key _ = _ from ex_key] at hv
  obtain ⟨A, c, rfl, _, _, hr⟩ := hv.form
  obtain ⟨b, o, rfl, hl, hc⟩ := hr 0 (by decide)
  exact ⟨hb, b, o, c, by rw [show Nm.check _ = _ from ex_check]; rfl, hl, hc 0 (by decide)⟩
theorem nwidth_ex (w : World) (ht : Gl.Tab w) (hm : MaxOk w) : Calls Tryd.prog 45 #[.string ⟨#[97, 32, 98]⟩, .int .i64 6] w fun e w' => e = .returned (.tuple #[.int .i64 11, .int .i64 0]) ∧ Below w.heap.size w w' := by
  refine (nwidth_any _ 6 w ht hm (by decide)).mono ?_
  rintro e w' ⟨rfl, hb⟩
  exact ⟨by rw [show Nm.width _ _ = _ from ex_width, show Nm.widthE _ _ = _ from ex_widthE], hb⟩
theorem ncmp_ex (w : World) (ht : Gl.Tab w) (hm : MaxOk w) : Calls Tryd.prog 41 #[.string ⟨#[83, 97, 105, 110, 116, 45, 68, 101, 110, 105, 115]⟩, .string ⟨#[115, 97, 105, 110, 116, 32, 100, 101, 110, 105, 115]⟩] w fun e w' => e = .returned (.int .i64 (-1)) ∧ Below w.heap.size w w' := by
  refine (ncmp_any _ _ w ht hm (by decide) (by decide)).mono ?_
  rintro e w' ⟨rfl, hb⟩
  exact ⟨by rw [show Nm.cmp _ _ = _ from ex_cmp], hb⟩
theorem ncheck_ex1 (w : World) (ht : Gl.Tab w) (hm : MaxOk w) : Calls Tryd.prog 38 #[.string ⟨#[]⟩] w fun e w' => e = .returned (.int .i64 14) ∧ Below w.heap.size w w' := by
  refine (ncheck_any _ w ht hm (by decide)).mono ?_
  rintro e w' ⟨rfl, hb⟩
  exact ⟨by rw [show Nm.check _ = _ from ex_check1], hb⟩
theorem ncheck_ex2 (w : World) (ht : Gl.Tab w) (hm : MaxOk w) : Calls Tryd.prog 38 #[.string ⟨#[49, 50, 45, 51, 52]⟩] w fun e w' => e = .returned (.int .i64 14) ∧ Below w.heap.size w w' := by
  refine (ncheck_any _ w ht hm (by decide)).mono ?_
  rintro e w' ⟨rfl, hb⟩
  exact ⟨by rw [show Nm.check _ = _ from ex_check2], hb⟩
theorem ncheck_ex3 (w : World) (ht : Gl.Tab w) (hm : MaxOk w) : Calls Tryd.prog 38 #[.string ⟨#[97, 32, 32, 98]⟩] w fun e w' => e = .returned (.int .i64 14) ∧ Below w.heap.size w w' := by
  refine (ncheck_any _ w ht hm (by decide)).mono ?_
  rintro e w' ⟨rfl, hb⟩
  exact ⟨by rw [show Nm.check _ = _ from ex_check3], hb⟩
theorem nbegins_ex1 (w : World) (ht : Gl.Tab w) (hm : MaxOk w) : Calls Tryd.prog 43 #[.string ⟨#[78, 101, 117, 115, 116, 97, 100, 116, 32, 40, 68, 111, 115, 115, 101, 41]⟩, .string ⟨#[110, 101, 117, 115, 116]⟩] w fun e w' => e = .returned (.bool true) ∧ Below w.heap.size w w' := by
  refine (nbegins_any _ _ w ht hm (by decide) (by decide)).mono ?_
  rintro e w' ⟨rfl, hb⟩
  exact ⟨by rw [show Nm.begins _ _ = _ from ex_begins1], hb⟩
theorem nbegins_ex2 (w : World) (ht : Gl.Tab w) (hm : MaxOk w) : Calls Tryd.prog 43 #[.string ⟨#[110, 101, 117, 115, 116]⟩, .string ⟨#[78, 101, 117, 115, 116, 97, 100, 116]⟩] w fun e w' => e = .returned (.bool false) ∧ Below w.heap.size w w' := by
  refine (nbegins_any _ _ w ht hm (by decide) (by decide)).mono ?_
  rintro e w' ⟨rfl, hb⟩
  exact ⟨by rw [show Nm.begins _ _ = _ from ex_begins2], hb⟩

set_option maxHeartbeats 8000000 in
theorem awake7_any (w : World) (ht : Gl.Tab w) (hm : MaxOk w) : Calls Tryd.prog 35 #[] w fun e w' => e = .returned (.bool true) ∧ Below w.heap.size w w' := by
  go_enter Tryd.func35, Tryd.ntmps35
  go_wp2_with fail
  refine (nkey_ex _ ht hm).mono ?_
  rintro e w1 ⟨hb1, b1, o1, c1, rfl, hl1, hc1⟩
  have ht1 := ht.below hb1 (Nat.le_refl _)
  have hm1 := hm.below hb1 (Nat.le_refl _)
  go_wp2_with fail
  refine (nwidth_ex _ ht1 hm1).mono ?_
  first | rintro e w2 rfl hb2 | rintro e w2 ⟨rfl, hb2⟩
  have ht2 := ht1.below hb2 (Nat.le_refl _)
  have hm2 := hm1.below hb2 (Nat.le_refl _)
  have hb02 : Below w.heap.size w w2 := hb1.trans (hb2.mono hb1.size)
  have hc2 : w2.cell? ⟨b1, o1, none⟩ = some (.int .i64 115) := (hb2.cell (p := ⟨b1, o1, none⟩) hl1).trans hc1
  clear hc1
  go_wp2_with fail
  refine (ncmp_ex _ ht2 hm2).mono ?_
  first | rintro e w3 rfl hb3 | rintro e w3 ⟨rfl, hb3⟩
  have ht3 := ht2.below hb3 (Nat.le_refl _)
  have hm3 := hm2.below hb3 (Nat.le_refl _)
  have hb03 : Below w.heap.size w w3 := hb02.trans (hb3.mono hb02.size)
  clear hc2
  go_wp2_with fail
  refine (ncheck_ex1 _ ht3 hm3).mono ?_
  first | rintro e w4 rfl hb4 | rintro e w4 ⟨rfl, hb4⟩
  have ht4 := ht3.below hb4 (Nat.le_refl _)
  have hm4 := hm3.below hb4 (Nat.le_refl _)
  have hb04 : Below w.heap.size w w4 := hb03.trans (hb4.mono hb03.size)
  go_wp2_with fail
  refine (ncheck_ex2 _ ht4 hm4).mono ?_
  first | rintro e w5 rfl hb5 | rintro e w5 ⟨rfl, hb5⟩
  have ht5 := ht4.below hb5 (Nat.le_refl _)
  have hm5 := hm4.below hb5 (Nat.le_refl _)
  have hb05 : Below w.heap.size w w5 := hb04.trans (hb5.mono hb04.size)
  go_wp2_with fail
  refine (ncheck_ex3 _ ht5 hm5).mono ?_
  first | rintro e w6 rfl hb6 | rintro e w6 ⟨rfl, hb6⟩
  have ht6 := ht5.below hb6 (Nat.le_refl _)
  have hm6 := hm5.below hb6 (Nat.le_refl _)
  have hb06 : Below w.heap.size w w6 := hb05.trans (hb6.mono hb05.size)
  go_wp2_with fail
  refine (nbegins_ex1 _ ht6 hm6).mono ?_
  first | rintro e w7 rfl hb7 | rintro e w7 ⟨rfl, hb7⟩
  have ht7 := ht6.below hb7 (Nat.le_refl _)
  have hm7 := hm6.below hb7 (Nat.le_refl _)
  have hb07 : Below w.heap.size w w7 := hb06.trans (hb7.mono hb06.size)
  go_wp2_with fail
  refine (nbegins_ex2 _ ht7 hm7).mono ?_
  first | rintro e w8 rfl hb8 | rintro e w8 ⟨rfl, hb8⟩
  have hb08 : Below w.heap.size w w8 := hb07.trans (hb8.mono hb07.size)
  go_wp2_with fail
  go_ret
  exact ⟨rfl, hb08⟩
end Go.Proofs.YtlcjfphhogcenaaDoor
