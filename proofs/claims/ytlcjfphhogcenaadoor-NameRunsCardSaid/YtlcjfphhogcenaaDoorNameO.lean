/-
  Walks of the statements of layer 7: NameRuns.
-/
import Derived.Test.YtlcjfphhogcenaaDoorNameN
import Derived.Deep.DeepCutAuto
set_option linter.unusedVariables false
set_option linter.unusedSimpArgs false
namespace Go.Proofs.YtlcjfphhogcenaaDoor
open Go.RowKit

set_option maxHeartbeats 4000000 in
theorem law_nruns (a b c p : ByteArray) (w : World) (ht : Gl.Tab w) (hm : MaxOk w) (ha : a.size ≤ 9223372036854775807) (hb : b.size ≤ 9223372036854775807) (hc : c.size ≤ 9223372036854775807) (hp : p.size ≤ 9223372036854775807) :
    Calls Tryd.prog 15 #[.string a, .string b, .string c, .string p] w fun e w' => e = .returned (.bool true) ∧ Below w.heap.size w w' := by
  go_enter Tryd.func15, Tryd.ntmps15
  by_cases hl : a.size ≤ 200 ∧ b.size ≤ 200 ∧ c.size ≤ 200
  rotate_left
  · go_wp2_with fail
    refine (light_no ha hb hc hl _).mono ?_
    first | rintro e w1 rfl rfl | rintro e w1 ⟨rfl, rfl⟩
    go_wp2_with fail
    refine (awake7_any _ ht hm).mono ?_
    first | rintro e w1 rfl hb1 | rintro e w1 ⟨rfl, hb1⟩
    go_wp2_with fail
    go_ret
    exact ⟨rfl, hb1⟩
  obtain ⟨hl1, hl2, hl3⟩ := hl
  by_cases hl4 : p.size ≤ 200
  rotate_left
  · go_wp2_with fail
    refine (light_yes hl1 hl2 hl3 _).mono ?_
    first | rintro e w1 rfl rfl | rintro e w1 ⟨rfl, rfl⟩
    go_wp2_with fail
    refine (awake7_any _ ht hm).mono ?_
    first | rintro e w1 rfl hb1 | rintro e w1 ⟨rfl, hb1⟩
    go_wp2_with fail
    go_ret
    exact ⟨rfl, hb1⟩
  go_wp2_with fail
  refine (light_yes hl1 hl2 hl3 _).mono ?_
  first | rintro e w1 rfl rfl | rintro e w1 ⟨rfl, rfl⟩
  have HR := Lib.hid (@Nm.runs a.data.toList b.data.toList c.data.toList p.data.toList)
  have HT := Lib.hid (@Nm.begins_trans a.data.toList b.data.toList c.data.toList)
  have HS := Lib.hid (Nm.begins_self a.data.toList)
  have HN := Lib.hid (Nm.begins_nil a.data.toList)
  go_upto_region 3 with fail
  go_cut [50] (fun v wx => v = .bool false ∧ Below w.heap.size w wx)
  case first =>
    obtain ⟨kb, hkb⟩ : ∃ k, Nm.check b.data.toList = k := ⟨_, rfl⟩
    have HKB := Lib.hid hkb
    clear hkb
    go_wp2_with fail
    refine (ncheck_at b _ _ HKB.out ht hm hl2).mono ?_
    first | rintro e w1 rfl hb1 | rintro e w1 ⟨rfl, hb1⟩
    have ht1 := ht.below hb1 (Nat.le_refl _)
    have hm1 := hm.below hb1 (Nat.le_refl _)
    by_cases h1 : kb = 0
    rotate_left
    · have h1b : (kb == 0) = false := by simpa using h1
      go_wp2_with fail
      go_meet
      case rel => exact ⟨rfl, hb1⟩
    subst h1
    obtain ⟨k2, hk2⟩ : ∃ k, Nm.cmp a.data.toList b.data.toList = k := ⟨_, rfl⟩
    have HK2 := Lib.hid hk2
    clear hk2
    go_wp2_with fail
    refine (ncmp_at a b _ _ HK2.out ht1 hm1 hl1 hl2).mono ?_
    first | rintro e w2 rfl hb2 | rintro e w2 ⟨rfl, hb2⟩
    have ht2 := ht1.below hb2 (Nat.le_refl _)
    have hm2 := hm1.below hb2 (Nat.le_refl _)
    have hb02 : Below w.heap.size w w2 := hb1.trans (hb2.mono hb1.size)
    by_cases h2 : k2 ≤ 0
    rotate_left
    · go_wp2_with fail
      go_meet
      case rel => exact ⟨rfl, hb02⟩
    obtain ⟨k3, hk3⟩ : ∃ k, Nm.cmp b.data.toList c.data.toList = k := ⟨_, rfl⟩
    have HK3 := Lib.hid hk3
    clear hk3
    go_wp2_with fail
    refine (ncmp_at b c _ _ HK3.out ht2 hm2 hl2 hl3).mono ?_
    first | rintro e w3 rfl hb3 | rintro e w3 ⟨rfl, hb3⟩
    have ht3 := ht2.below hb3 (Nat.le_refl _)
    have hm3 := hm2.below hb3 (Nat.le_refl _)
    have hb03 : Below w.heap.size w w3 := hb02.trans (hb3.mono hb02.size)
    by_cases h3 : k3 ≤ 0
    rotate_left
    · go_wp2_with fail
      go_meet
      case rel => exact ⟨rfl, hb03⟩
    rcases Bool.eq_false_or_eq_true (Nm.begins a.data.toList p.data.toList) with h4 | h4
    rotate_left
    · have H4 := Lib.hid h4
      clear h4
      go_wp2_with fail
      refine (nbegins_at a p _ _ H4.out ht3 hm3 hl1 hl4).mono ?_
      first | rintro e w4 rfl hb4 | rintro e w4 ⟨rfl, hb4⟩
      go_wp2_with fail
      go_meet
      case rel => exact ⟨rfl, hb03.trans (hb4.mono hb03.size)⟩
    have H4 := Lib.hid h4
    clear h4
    go_wp2_with fail
    refine (nbegins_at a p _ _ H4.out ht3 hm3 hl1 hl4).mono ?_
    first | rintro e w4 rfl hb4 | rintro e w4 ⟨rfl, hb4⟩
    have ht4 := ht3.below hb4 (Nat.le_refl _)
    have hm4 := hm3.below hb4 (Nat.le_refl _)
    have hb04 : Below w.heap.size w w4 := hb03.trans (hb4.mono hb03.size)
    rcases Bool.eq_false_or_eq_true (Nm.begins c.data.toList p.data.toList) with h5 | h5
    rotate_left
    · have H5 := Lib.hid h5
      clear h5
      go_wp2_with fail
      refine (nbegins_at c p _ _ H5.out ht4 hm4 hl3 hl4).mono ?_
      first | rintro e w5 rfl hb5 | rintro e w5 ⟨rfl, hb5⟩
      go_wp2_with fail
      go_meet
      case rel => exact ⟨rfl, hb04.trans (hb5.mono hb04.size)⟩
    have H5 := Lib.hid h5
    clear h5
    have H6 := Lib.hid (HR.out HKB.out (by rw [HK2.out]; exact h2) (by rw [HK3.out]; exact h3) H4.out H5.out)
    go_wp2_with fail
    refine (nbegins_at c p _ _ H5.out ht4 hm4 hl3 hl4).mono ?_
    first | rintro e w5 rfl hb5 | rintro e w5 ⟨rfl, hb5⟩
    have ht5 := ht4.below hb5 (Nat.le_refl _)
    have hm5 := hm4.below hb5 (Nat.le_refl _)
    have hb05 : Below w.heap.size w w5 := hb04.trans (hb5.mono hb04.size)
    go_wp2_with fail
    refine (nbegins_at b p _ _ H6.out ht5 hm5 hl2 hl4).mono ?_
    first | rintro e w6 rfl hb6 | rintro e w6 ⟨rfl, hb6⟩
    go_wp2_with fail
    go_meet
    case rel => exact ⟨rfl, hb05.trans (hb6.mono hb05.size)⟩
  case rest =>
  obtain ⟨rfl, hbc⟩ := hcut
  have htc := ht.below hbc (Nat.le_refl _)
  have hmc := hm.below hbc (Nat.le_refl _)
  obtain ⟨w0, rfl⟩ : ∃ w0, w0 = wc := ⟨_, rfl⟩
  go_upto_region 5 with fail
  go_cut [64] (fun v wx => v = .bool false ∧ Below w.heap.size w wx)
  case first =>
    rcases Bool.eq_false_or_eq_true (Nm.begins a.data.toList b.data.toList) with h4 | h4
    rotate_left
    · have H4 := Lib.hid h4
      clear h4
      go_wp2_with fail
      refine (nbegins_at a b _ _ H4.out htc hmc hl1 hl2).mono ?_
      first | rintro e w4 rfl hb4 | rintro e w4 ⟨rfl, hb4⟩
      go_wp2_with fail
      go_meet
      case rel => exact ⟨rfl, hbc.trans (hb4.mono hbc.size)⟩
    have H4 := Lib.hid h4
    clear h4
    go_wp2_with fail
    refine (nbegins_at a b _ _ H4.out htc hmc hl1 hl2).mono ?_
    first | rintro e w4 rfl hb4 | rintro e w4 ⟨rfl, hb4⟩
    have ht4 := htc.below hb4 (Nat.le_refl _)
    have hm4 := hmc.below hb4 (Nat.le_refl _)
    have hb04 : Below w.heap.size w w4 := hbc.trans (hb4.mono hbc.size)
    rcases Bool.eq_false_or_eq_true (Nm.begins b.data.toList c.data.toList) with h5 | h5
    rotate_left
    · have H5 := Lib.hid h5
      clear h5
      go_wp2_with fail
      refine (nbegins_at b c _ _ H5.out ht4 hm4 hl2 hl3).mono ?_
      first | rintro e w5 rfl hb5 | rintro e w5 ⟨rfl, hb5⟩
      go_wp2_with fail
      go_meet
      case rel => exact ⟨rfl, hb04.trans (hb5.mono hb04.size)⟩
    have H5 := Lib.hid h5
    clear h5
    have H6 := Lib.hid (HT.out H4.out H5.out)
    go_wp2_with fail
    refine (nbegins_at b c _ _ H5.out ht4 hm4 hl2 hl3).mono ?_
    first | rintro e w5 rfl hb5 | rintro e w5 ⟨rfl, hb5⟩
    have ht5 := ht4.below hb5 (Nat.le_refl _)
    have hm5 := hm4.below hb5 (Nat.le_refl _)
    have hb05 : Below w.heap.size w w5 := hb04.trans (hb5.mono hb04.size)
    go_wp2_with fail
    refine (nbegins_at a c _ _ H6.out ht5 hm5 hl1 hl3).mono ?_
    first | rintro e w6 rfl hb6 | rintro e w6 ⟨rfl, hb6⟩
    go_wp2_with fail
    go_meet
    case rel => exact ⟨rfl, hb05.trans (hb6.mono hb05.size)⟩
  case rest =>
  obtain ⟨rfl, hbd⟩ := hcut
  have htd := ht.below hbd (Nat.le_refl _)
  have hmd := hm.below hbd (Nat.le_refl _)
  go_wp2_with fail
  refine (awake7_any _ htd hmd).mono ?_
  first | rintro e w1 rfl hb1 | rintro e w1 ⟨rfl, hb1⟩
  have ht1 := htd.below hb1 (Nat.le_refl _)
  have hm1 := hmd.below hb1 (Nat.le_refl _)
  have hb01 : Below w.heap.size w w1 := hbd.trans (hb1.mono hbd.size)
  go_wp2_with fail
  refine (nbegins_at a a _ _ HS.out ht1 hm1 hl1 hl1).mono ?_
  first | rintro e w2 rfl hb2 | rintro e w2 ⟨rfl, hb2⟩
  have ht2 := ht1.below hb2 (Nat.le_refl _)
  have hm2 := hm1.below hb2 (Nat.le_refl _)
  have hb02 : Below w.heap.size w w2 := hb01.trans (hb2.mono hb01.size)
  go_wp2_with fail
  refine (ncheck_at a _ _ rfl ht2 hm2 hl1).mono ?_
  first | rintro e w3 rfl hb3 | rintro e w3 ⟨rfl, hb3⟩
  have ht3 := ht2.below hb3 (Nat.le_refl _)
  have hm3 := hm2.below hb3 (Nat.le_refl _)
  have hb03 : Below w.heap.size w w3 := hb02.trans (hb3.mono hb02.size)
  go_wp2_with fail
  refine (nbegins_at a ⟨#[]⟩ _ _ HN.out ht3 hm3 hl1 (by decide)).mono ?_
  first | rintro e w4 rfl hb4 | rintro e w4 ⟨rfl, hb4⟩
  have ht4 := ht3.below hb4 (Nat.le_refl _)
  have hm4 := hm3.below hb4 (Nat.le_refl _)
  have hb04 : Below w.heap.size w w4 := hb03.trans (hb4.mono hb03.size)
  go_wp2_with fail
  refine (ncheck_at a _ _ rfl ht4 hm4 hl1).mono ?_
  first | rintro e w5 rfl hb5 | rintro e w5 ⟨rfl, hb5⟩
  have hb05 : Below w.heap.size w w5 := hb04.trans (hb5.mono hb04.size)
  go_wp2_with fail
  go_ret
  exact ⟨rfl, hb05⟩
end Go.Proofs.YtlcjfphhogcenaaDoor
