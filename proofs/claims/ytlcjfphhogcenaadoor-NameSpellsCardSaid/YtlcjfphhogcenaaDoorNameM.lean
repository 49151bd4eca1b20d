/-
  Walks of the statements of layer 7: NameChecks, NameCompares, NameWidths.
-/
import Derived.Test.YtlcjfphhogcenaaDoorNameL
import Derived.Test.YtlcjfphhogcenaaDoorPlainR
set_option linter.unusedVariables false
set_option linter.unusedSimpArgs false
namespace Go.Proofs.YtlcjfphhogcenaaDoor
open Go.RowKit

theorem light_yes {a b c : ByteArray} (ha : a.size ≤ 200) (hb : b.size ≤ 200) (hc : c.size ≤ 200) (w : World) :
    Calls Tryd.prog 34 #[.string a, .string b, .string c] w fun e w' => e = .returned (.bool true) ∧ w = w' := by
  refine (light_any a b c w (by omega) (by omega) (by omega)).mono ?_
  rintro e w' ⟨rfl, rfl⟩
  exact ⟨ret_bool (by simp [ha, hb, hc]), rfl⟩
theorem light_no {a b c : ByteArray} (ha : a.size ≤ 9223372036854775807) (hb : b.size ≤ 9223372036854775807) (hc : c.size ≤ 9223372036854775807) (hn : ¬ (a.size ≤ 200 ∧ b.size ≤ 200 ∧ c.size ≤ 200)) (w : World) :
    Calls Tryd.prog 34 #[.string a, .string b, .string c] w fun e w' => e = .returned (.bool false) ∧ w = w' := by
  refine (light_any a b c w ha hb hc).mono ?_
  rintro e w' ⟨rfl, rfl⟩
  exact ⟨ret_bool (decide_eq_false hn), rfl⟩
theorem size_nil : (⟨#[]⟩ : ByteArray).size = 0 := rfl

set_option maxHeartbeats 2000000 in
theorem law_nchecks (s : ByteArray) (w : World) (ht : Gl.Tab w) (hm : MaxOk w) (hs : s.size ≤ 9223372036854775807) :
    Calls Tryd.prog 12 #[.string s] w fun e w' => e = .returned (.bool true) ∧ Below w.heap.size w w' := by
  go_enter Tryd.func12, Tryd.ntmps12
  by_cases hl : s.size ≤ 200
  rotate_left
  · go_wp2_with fail
    refine (light_no hs (by decide) (by decide) (fun h => hl h.1) _).mono ?_
    first | rintro e w1 rfl rfl | rintro e w1 ⟨rfl, rfl⟩
    go_wp2_with fail
    refine (awake7_any _ ht hm).mono ?_
    first | rintro e w1 rfl hb1 | rintro e w1 ⟨rfl, hb1⟩
    go_wp2_with fail
    go_ret
    exact ⟨rfl, hb1⟩
  go_wp2_with fail
  refine (light_yes hl (by decide) (by decide) _).mono ?_
  first | rintro e w1 rfl rfl | rintro e w1 ⟨rfl, rfl⟩
  go_wp2_with fail
  refine (nkey_any _ _ ht hm (by omega)).mono ?_
  rintro e w1 ⟨hb1, v1, ho1, rfl⟩
  have ht1 := ht.below hb1 (Nat.le_refl _)
  have hm1 := hm.below hb1 (Nat.le_refl _)
  go_wp2_with fail
  refine (rkey_any _ _ (by omega)).mono ?_
  rintro e w2 ⟨hb2, v2, ho2, rfl⟩
  have ht2 := ht1.below hb2 (Nat.le_refl _)
  have hm2 := hm1.below hb2 (Nat.le_refl _)
  have hb02 : Below w.heap.size w w2 := hb1.trans (hb2.mono hb1.size)
  have ho12 := ho1.below hb2 (Nat.le_refl _)
  go_wp2_with fail
  refine (awake7_any _ ht2 hm2).mono ?_
  first | rintro e w3 rfl hb3 | rintro e w3 ⟨rfl, hb3⟩
  have ht3 := ht2.below hb3 (Nat.le_refl _)
  have hm3 := hm2.below hb3 (Nat.le_refl _)
  have hb03 : Below w.heap.size w w3 := hb02.trans (hb3.mono hb02.size)
  have ho13 := ho12.below hb3 (Nat.le_refl _)
  have ho23 := ho2.below hb3 (Nat.le_refl _)
  go_wp2_with fail
  refine (ncheck_any _ _ ht3 hm3 (by omega)).mono ?_
  first | rintro e w4 rfl hb4 | rintro e w4 ⟨rfl, hb4⟩
  have hb04 : Below w.heap.size w w4 := hb03.trans (hb4.mono hb03.size)
  have ho14 := ho13.below hb4 (Nat.le_refl _)
  have ho24 := ho23.below hb4 (Nat.le_refl _)
  go_wp2_with fail
  refine (rcheck_any _ _ (by omega)).mono ?_
  first | rintro e w5 rfl hb5 | rintro e w5 ⟨rfl, hb5⟩
  have hb05 : Below w.heap.size w w5 := hb04.trans (hb5.mono hb04.size)
  have ho15 := ho14.below hb5 (Nat.le_refl _)
  have ho25 := ho24.below hb5 (Nat.le_refl _)
  have hkl := Nm.key_len s.data.toList
  obtain ⟨n1, hn1⟩ : ∃ n, (Nm.key s.data.toList).length = n := ⟨_, rfl⟩
  rw [hn1] at hkl
  obtain ⟨A1, c1, rfl, _, hR1, _⟩ := ho15.form_n hn1
  obtain ⟨A2, c2, rfl, _, hR2, _⟩ := ho25.form_n hn1
  have HN := Lib.hid hn1
  clear hn1
  go_wp2_with fail
  refine (same4_any _ _ _ _ _ _ n1 n1 _ HN.out HN.out hR1 hR2 (by omega)).mono ?_
  first | rintro e w6 rfl hb6 | rintro e w6 ⟨rfl, hb6⟩
  try rw [decide_eq_true rfl]
  go_wp2_with fail
  go_ret
  exact ⟨rfl, hb05.trans (hb6.mono hb05.size)⟩

set_option maxHeartbeats 2000000 in
theorem law_ncompares (a b : ByteArray) (w : World) (ht : Gl.Tab w) (hm : MaxOk w) (ha : a.size ≤ 9223372036854775807) (hb : b.size ≤ 9223372036854775807) :
    Calls Tryd.prog 13 #[.string a, .string b] w fun e w' => e = .returned (.bool true) ∧ Below w.heap.size w w' := by
  go_enter Tryd.func13, Tryd.ntmps13
  by_cases hl : a.size ≤ 200 ∧ b.size ≤ 200
  rotate_left
  · go_wp2_with fail
    refine (light_no ha hb (by decide) (fun h => hl ⟨h.1, h.2.1⟩) _).mono ?_
    first | rintro e w1 rfl rfl | rintro e w1 ⟨rfl, rfl⟩
    go_wp2_with fail
    refine (awake7_any _ ht hm).mono ?_
    first | rintro e w1 rfl hb1 | rintro e w1 ⟨rfl, hb1⟩
    go_wp2_with fail
    go_ret
    exact ⟨rfl, hb1⟩
  obtain ⟨hl1, hl2⟩ := hl
  go_wp2_with fail
  refine (light_yes hl1 hl2 (by decide) _).mono ?_
  first | rintro e w1 rfl rfl | rintro e w1 ⟨rfl, rfl⟩
  go_wp2_with fail
  refine (awake7_any _ ht hm).mono ?_
  first | rintro e w1 rfl hb1 | rintro e w1 ⟨rfl, hb1⟩
  have ht1 := ht.below hb1 (Nat.le_refl _)
  have hm1 := hm.below hb1 (Nat.le_refl _)
  go_wp2_with fail
  refine (ncmp_any _ _ _ ht1 hm1 (by omega) (by omega)).mono ?_
  first | rintro e w2 rfl hb2 | rintro e w2 ⟨rfl, hb2⟩
  have ht2 := ht1.below hb2 (Nat.le_refl _)
  have hm2 := hm1.below hb2 (Nat.le_refl _)
  have hb02 : Below w.heap.size w w2 := hb1.trans (hb2.mono hb1.size)
  go_wp2_with fail
  refine (rcmp_any _ _ _ (by omega) (by omega)).mono ?_
  first | rintro e w3 rfl hb3 | rintro e w3 ⟨rfl, hb3⟩
  have ht3 := ht2.below hb3 (Nat.le_refl _)
  have hm3 := hm2.below hb3 (Nat.le_refl _)
  have hb03 : Below w.heap.size w w3 := hb02.trans (hb3.mono hb02.size)
  go_wp2_with fail
  refine (nbegins_any _ _ _ ht3 hm3 (by omega) (by omega)).mono ?_
  first | rintro e w4 rfl hb4 | rintro e w4 ⟨rfl, hb4⟩
  have hb04 : Below w.heap.size w w4 := hb03.trans (hb4.mono hb03.size)
  go_wp2_with fail
  refine (rbegins_any _ _ _ (by omega) (by omega)).mono ?_
  first | rintro e w5 rfl hb5 | rintro e w5 ⟨rfl, hb5⟩
  have hb05 : Below w.heap.size w w5 := hb04.trans (hb5.mono hb04.size)
  go_wp2_with fail
  go_ret
  exact ⟨rfl, hb05⟩

set_option maxHeartbeats 2000000 in
theorem law_nwidths (s : ByteArray) (h : Int) (w : World) (ht : Gl.Tab w) (hm : MaxOk w) (hs : s.size ≤ 9223372036854775807) :
    Calls Tryd.prog 16 #[.string s, .int .i64 h] w fun e w' => e = .returned (.bool true) ∧ Below w.heap.size w w' := by
  go_enter Tryd.func16, Tryd.ntmps16
  by_cases hl : s.size ≤ 200
  rotate_left
  · go_wp2_with fail
    refine (light_no hs (by decide) (by decide) (fun h => hl h.1) _).mono ?_
    first | rintro e w1 rfl rfl | rintro e w1 ⟨rfl, rfl⟩
    go_wp2_with fail
    refine (awake7_any _ ht hm).mono ?_
    first | rintro e w1 rfl hb1 | rintro e w1 ⟨rfl, hb1⟩
    go_wp2_with fail
    go_ret
    exact ⟨rfl, hb1⟩
  go_wp2_with fail
  refine (light_yes hl (by decide) (by decide) _).mono ?_
  first | rintro e w1 rfl rfl | rintro e w1 ⟨rfl, rfl⟩
  go_wp2_with fail
  refine (nwidth_any _ _ _ ht hm (by omega)).mono ?_
  rintro e w1 ⟨rfl, hb1⟩
  have ht1 := ht.below hb1 (Nat.le_refl _)
  have hm1 := hm.below hb1 (Nat.le_refl _)
  go_wp2_with fail
  refine (r7width_any _ _ _ (by omega)).mono ?_
  rintro e w2 ⟨rfl, hb2⟩
  have ht2 := ht1.below hb2 (Nat.le_refl _)
  have hm2 := hm1.below hb2 (Nat.le_refl _)
  have hb02 : Below w.heap.size w w2 := hb1.trans (hb2.mono hb1.size)
  go_wp2_with fail
  refine (awake7_any _ ht2 hm2).mono ?_
  first | rintro e w3 rfl hb3 | rintro e w3 ⟨rfl, hb3⟩
  have hb03 : Below w.heap.size w w3 := hb02.trans (hb3.mono hb02.size)
  go_wp2_with fail
  go_ret
  exact ⟨rfl, hb03⟩
end Go.Proofs.YtlcjfphhogcenaaDoor
