/-
  Walks of the statements of layer 7: NameOrders.
-/
import Derived.Test.YtlcjfphhogcenaaDoorNameM
set_option linter.unusedVariables false
set_option linter.unusedSimpArgs false
namespace Go.Proofs.YtlcjfphhogcenaaDoor
open Go.RowKit

theorem Nm.tri (a b : List UInt8) : Nm.cmp a b = -1 ∨ Nm.cmp a b = 0 ∨ Nm.cmp a b = 1 := by have := Nm.cmp_range a b; omega
theorem str_inj {a b : ByteArray} (h : a.data.toList = b.data.toList) : a = b := by
  cases a; cases b; simp at h; subst h; rfl
theorem ncmp_at (a b : ByteArray) (w : World) (n : Int) (hn : Nm.cmp a.data.toList b.data.toList = n) (ht : Gl.Tab w) (hm : MaxOk w) (ha : a.size ≤ 200) (hb : b.size ≤ 200) :
    Calls Tryd.prog 41 #[.string a, .string b] w fun e w' => e = .returned (.int .i64 n) ∧ Below w.heap.size w w' := by
  subst hn
  exact ncmp_any a b w ht hm (by omega) (by omega)
theorem nbegins_at (a b : ByteArray) (w : World) (n : Bool) (hn : Nm.begins a.data.toList b.data.toList = n) (ht : Gl.Tab w) (hm : MaxOk w) (ha : a.size ≤ 200) (hb : b.size ≤ 200) :
    Calls Tryd.prog 43 #[.string a, .string b] w fun e w' => e = .returned (.bool n) ∧ Below w.heap.size w w' := by
  subst hn
  exact nbegins_any a b w ht hm (by omega) (by omega)
theorem ncheck_at (a : ByteArray) (w : World) (n : Int) (hn : Nm.check a.data.toList = n) (ht : Gl.Tab w) (hm : MaxOk w) (ha : a.size ≤ 200) :
    Calls Tryd.prog 38 #[.string a] w fun e w' => e = .returned (.int .i64 n) ∧ Below w.heap.size w w' := by
  subst hn
  exact ncheck_any a w ht hm (by omega)

set_option maxHeartbeats 2000000 in
theorem law_norders (a b c : ByteArray) (w : World) (ht : Gl.Tab w) (hm : MaxOk w) (ha : a.size ≤ 9223372036854775807) (hb : b.size ≤ 9223372036854775807) (hc : c.size ≤ 9223372036854775807) :
    Calls Tryd.prog 14 #[.string a, .string b, .string c] w fun e w' => e = .returned (.bool true) ∧ Below w.heap.size w w' := by
  go_enter Tryd.func14, Tryd.ntmps14
  by_cases hl : a.size ≤ 200 ∧ b.size ≤ 200 ∧ c.size ≤ 200
  rotate_left
  · go_wp2_with fail
    refine (light_no ha hb hc hl _).mono ?_
    first | rintro e w1 rfl rfl | rintro e w1 ⟨rfl, rfl⟩
    go_wp2_with fail
    refine (awake7_any _ ht hm).mono ?_
    first | rintro e w1 rfl hb1 | rintro e w1 ⟨rfl, hb1⟩
    go_wp2_with fail
    go_ret
    exact ⟨rfl, hb1⟩
  obtain ⟨hl1, hl2, hl3⟩ := hl
  go_wp2_with fail
  refine (light_yes hl1 hl2 hl3 _).mono ?_
  first | rintro e w1 rfl rfl | rintro e w1 ⟨rfl, rfl⟩
  have HT := Lib.hid (Nm.cmp_trans a.data.toList b.data.toList c.data.toList)
  have HZ := Lib.hid (Nm.cmp_zero a.data.toList b.data.toList)
  have HG := Lib.hid (Nm.cmp_neg a.data.toList b.data.toList)
  have hab : (a = b) ↔ Nm.cmp a.data.toList b.data.toList = 0 := by rw [HZ.out]; exact ⟨fun h => by rw [h], str_inj⟩
  have HAB := Lib.hid hab
  clear hab
  rcases Nm.tri a.data.toList b.data.toList with hn | hn | hn
  · have HN := Lib.hid hn
    have HM : Hid (Nm.cmp b.data.toList a.data.toList = 1) := Lib.hid (by rw [HG.out, hn]; rfl)
    have heq : (a.toList == b.toList) = false := by
      rw [beq_eq_false_iff_ne]
      intro h
      have := HAB.out.1 (str_inj (by rw [str_toList, str_toList] at h; exact h))
      rw [hn] at this
      omega
    clear hn
    go_wp2_with fail
    refine (ncmp_at a b _ _ HN.out ht hm hl1 hl2).mono ?_
    first | rintro e w1 rfl hb1 | rintro e w1 ⟨rfl, hb1⟩
    have ht1 := ht.below hb1 (Nat.le_refl _)
    have hm1 := hm.below hb1 (Nat.le_refl _)
    go_wp2_with fail
    refine (ncmp_at b a _ _ HM.out ht1 hm1 hl2 hl1).mono ?_
    first | rintro e w2 rfl hb2 | rintro e w2 ⟨rfl, hb2⟩
    have ht2 := ht1.below hb2 (Nat.le_refl _)
    have hm2 := hm1.below hb2 (Nat.le_refl _)
    have hb02 : Below w.heap.size w w2 := hb1.trans (hb2.mono hb1.size)
    go_wp2_with fail
    refine (awake7_any _ ht2 hm2).mono ?_
    first | rintro e w3 rfl hb3 | rintro e w3 ⟨rfl, hb3⟩
    have ht3 := ht2.below hb3 (Nat.le_refl _)
    have hm3 := hm2.below hb3 (Nat.le_refl _)
    have hb03 : Below w.heap.size w w3 := hb02.trans (hb3.mono hb02.size)
    obtain ⟨k, hk⟩ : ∃ k, Nm.cmp b.data.toList c.data.toList = k := ⟨_, rfl⟩
    have HK := Lib.hid hk
    clear hk
    go_wp2_with fail
    refine (ncmp_at b c _ _ HK.out ht3 hm3 hl2 hl3).mono ?_
    first | rintro e w4 rfl hb4 | rintro e w4 ⟨rfl, hb4⟩
    have ht4 := ht3.below hb4 (Nat.le_refl _)
    have hm4 := hm3.below hb4 (Nat.le_refl _)
    have hb04 : Below w.heap.size w w4 := hb03.trans (hb4.mono hb03.size)
    by_cases hp : 0 < k
    · go_wp2_with fail
      go_ret
      exact ⟨rfl, hb04⟩
    obtain ⟨m, hq⟩ : ∃ m, Nm.cmp a.data.toList c.data.toList = m := ⟨_, rfl⟩
    have HQ := Lib.hid hq
    have hm0 : m ≤ 0 := by rw [← hq]; exact HT.out (by rw [HN.out]; decide) (by rw [HK.out]; omega)
    clear hq
    go_wp2_with fail
    refine (ncmp_at a c _ _ HQ.out ht4 hm4 hl1 hl3).mono ?_
    first | rintro e w5 rfl hb5 | rintro e w5 ⟨rfl, hb5⟩
    have hb05 : Below w.heap.size w w5 := hb04.trans (hb5.mono hb04.size)
    go_wp2_with fail
    go_ret
    exact ⟨rfl, hb05⟩
  · have HN := Lib.hid hn
    have HM : Hid (Nm.cmp b.data.toList a.data.toList = 0) := Lib.hid (by rw [HG.out, hn]; rfl)
    have heq : (a.toList == b.toList) = true := by rw [HAB.out.2 hn]; simp
    clear hn
    go_wp2_with fail
    refine (ncmp_at a b _ _ HN.out ht hm hl1 hl2).mono ?_
    first | rintro e w1 rfl hb1 | rintro e w1 ⟨rfl, hb1⟩
    have ht1 := ht.below hb1 (Nat.le_refl _)
    have hm1 := hm.below hb1 (Nat.le_refl _)
    go_wp2_with fail
    refine (ncmp_at b a _ _ HM.out ht1 hm1 hl2 hl1).mono ?_
    first | rintro e w2 rfl hb2 | rintro e w2 ⟨rfl, hb2⟩
    have ht2 := ht1.below hb2 (Nat.le_refl _)
    have hm2 := hm1.below hb2 (Nat.le_refl _)
    have hb02 : Below w.heap.size w w2 := hb1.trans (hb2.mono hb1.size)
    go_wp2_with fail
    refine (awake7_any _ ht2 hm2).mono ?_
    first | rintro e w3 rfl hb3 | rintro e w3 ⟨rfl, hb3⟩
    have ht3 := ht2.below hb3 (Nat.le_refl _)
    have hm3 := hm2.below hb3 (Nat.le_refl _)
    have hb03 : Below w.heap.size w w3 := hb02.trans (hb3.mono hb02.size)
    obtain ⟨k, hk⟩ : ∃ k, Nm.cmp b.data.toList c.data.toList = k := ⟨_, rfl⟩
    have HK := Lib.hid hk
    clear hk
    go_wp2_with fail
    refine (ncmp_at b c _ _ HK.out ht3 hm3 hl2 hl3).mono ?_
    first | rintro e w4 rfl hb4 | rintro e w4 ⟨rfl, hb4⟩
    have ht4 := ht3.below hb4 (Nat.le_refl _)
    have hm4 := hm3.below hb4 (Nat.le_refl _)
    have hb04 : Below w.heap.size w w4 := hb03.trans (hb4.mono hb03.size)
    by_cases hp : 0 < k
    · go_wp2_with fail
      go_ret
      exact ⟨rfl, hb04⟩
    obtain ⟨m, hq⟩ : ∃ m, Nm.cmp a.data.toList c.data.toList = m := ⟨_, rfl⟩
    have HQ := Lib.hid hq
    have hm0 : m ≤ 0 := by rw [← hq]; exact HT.out (by rw [HN.out]; decide) (by rw [HK.out]; omega)
    clear hq
    go_wp2_with fail
    refine (ncmp_at a c _ _ HQ.out ht4 hm4 hl1 hl3).mono ?_
    first | rintro e w5 rfl hb5 | rintro e w5 ⟨rfl, hb5⟩
    have hb05 : Below w.heap.size w w5 := hb04.trans (hb5.mono hb04.size)
    go_wp2_with fail
    go_ret
    exact ⟨rfl, hb05⟩
  · have HN := Lib.hid hn
    have HM : Hid (Nm.cmp b.data.toList a.data.toList = -1) := Lib.hid (by rw [HG.out, hn])
    have heq : (a.toList == b.toList) = false := by
      rw [beq_eq_false_iff_ne]
      intro h
      have := HAB.out.1 (str_inj (by rw [str_toList, str_toList] at h; exact h))
      rw [hn] at this
      omega
    clear hn
    go_wp2_with fail
    refine (ncmp_at a b _ _ HN.out ht hm hl1 hl2).mono ?_
    first | rintro e w1 rfl hb1 | rintro e w1 ⟨rfl, hb1⟩
    have ht1 := ht.below hb1 (Nat.le_refl _)
    have hm1 := hm.below hb1 (Nat.le_refl _)
    go_wp2_with fail
    refine (ncmp_at b a _ _ HM.out ht1 hm1 hl2 hl1).mono ?_
    first | rintro e w2 rfl hb2 | rintro e w2 ⟨rfl, hb2⟩
    have ht2 := ht1.below hb2 (Nat.le_refl _)
    have hm2 := hm1.below hb2 (Nat.le_refl _)
    have hb02 : Below w.heap.size w w2 := hb1.trans (hb2.mono hb1.size)
    go_wp2_with fail
    refine (awake7_any _ ht2 hm2).mono ?_
    first | rintro e w3 rfl hb3 | rintro e w3 ⟨rfl, hb3⟩
    have ht3 := ht2.below hb3 (Nat.le_refl _)
    have hm3 := hm2.below hb3 (Nat.le_refl _)
    have hb03 : Below w.heap.size w w3 := hb02.trans (hb3.mono hb02.size)
    go_wp2_with fail
    go_ret
    exact ⟨rfl, hb03⟩
end Go.Proofs.YtlcjfphhogcenaaDoor
