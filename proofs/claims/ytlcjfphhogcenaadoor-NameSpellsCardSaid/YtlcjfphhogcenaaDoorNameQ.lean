/-
  Walks of the statements of layer 7: NameSpells.
-/
import Derived.Test.YtlcjfphhogcenaaDoorNameN
set_option linter.unusedVariables false
set_option linter.unusedSimpArgs false
namespace Go.Proofs.YtlcjfphhogcenaaDoor
open Go.RowKit

theorem wf_u8 {n : Int} (h : (Lit.int .u8 n).wf = true) : 0 ≤ n ∧ n ≤ 255 := by
  simp only [Lit.wf, Bool.and_eq_true, decide_eq_true_eq] at h
  have h1 : IntKind.min .u8 = 0 := by decide
  have h2 : IntKind.max .u8 = 255 := by decide
  rw [h1, h2] at h
  exact h
theorem nkey_at (a : ByteArray) (w : World) (L : List Int) (hn : Nm.key a.data.toList = L) (hc : Nm.check a.data.toList = 0) (ht : Gl.Tab w) (hm : MaxOk w) (ha : a.size ≤ 200) :
    Calls Tryd.prog 36 #[.string a] w (KeyPost L 0 w) := by
  subst hn
  refine (nkey_any a w ht hm (by omega)).mono ?_
  rw [hc]
  exact fun _ _ h => h
/-- What NameSpells asks of A, a mark, b and more. -/
def Nm.Spelt (s t : ByteArray) : Prop := Nm.check s.data.toList = 0 ∧ Nm.key s.data.toList = Nm.key (⟨#[97, 98]⟩ ++ t : ByteArray).data.toList ∧ s.size ≤ 200
theorem Nm.ab_toList (t : ByteArray) : (⟨#[97, 98]⟩ ++ t : ByteArray).data.toList = 97 :: 98 :: t.data.toList := by rw [str_join]; rfl
theorem Nm.spelt (j : Nat) (hj : j < 7) (m t : ByteArray) (hm : m.data.toList = Nm.marks7.getD j []) (hl : t.size ≤ 30) (hc : Nm.check (⟨#[97, 98]⟩ ++ t : ByteArray).data.toList = 0) :
    Nm.Spelt (⟨#[65]⟩ ++ m ++ ⟨#[98]⟩ ++ t) t := by
  have e : (⟨#[65]⟩ ++ m ++ ⟨#[98]⟩ ++ t : ByteArray).data.toList = 65 :: (Nm.marks7.getD j [] ++ 98 :: t.data.toList) := by
    rw [str_join, str_join, str_join, hm]
    simp
  rw [Nm.ab_toList] at hc
  have h := Nm.spells j hj (l := t.data.toList) hl hc
  refine ⟨by rw [e]; exact h.1, by rw [e, Nm.ab_toList]; exact h.2, ?_⟩
  have hml : m.size ≤ 1 := by
    have : m.size = (Nm.marks7.getD j []).length := by rw [← hm]; rfl
    rw [this]
    have : j = 0 ∨ j = 1 ∨ j = 2 ∨ j = 3 ∨ j = 4 ∨ j = 5 ∨ j = 6 := by omega
    rcases this with rfl | rfl | rfl | rfl | rfl | rfl | rfl <;> decide
  rw [ByteArray.size_append, ByteArray.size_append, ByteArray.size_append]
  show 1 + m.size + 1 + t.size ≤ 200
  omega
theorem Nm.begins_eq {a b : List UInt8} (ha : Nm.check a = 0) (hb : Nm.check b = 0) (hk : Nm.key a = Nm.key b) : Nm.begins a b = true := Nm.begins_iff.2 ⟨ha, Or.inr ⟨hb, by rw [hk]; exact List.prefix_rfl⟩⟩

set_option maxHeartbeats 4000000 in
theorem law_nspells (k : Int) (t : ByteArray) (w : World) (ht : Gl.Tab w) (hm : MaxOk w) (hs : t.size ≤ 9223372036854775807) (hk0 : 0 ≤ k) (hk1 : k ≤ 255) :
    Calls Tryd.prog 18 #[.int .u8 k, .string t] w fun e w' => e = .returned (.bool true) ∧ Below w.heap.size w w' := by
  go_enter Tryd.func18, Tryd.ntmps18
  by_cases hl : t.size ≤ 30
  rotate_left
  · go_wp2_with fail
    refine (awake7_any _ ht hm).mono ?_
    first | rintro e w1 rfl hb1 | rintro e w1 ⟨rfl, hb1⟩
    go_wp2_with fail
    go_ret
    exact ⟨rfl, hb1⟩
  have hab : (⟨#[97, 98]⟩ ++ t : ByteArray).data.toList = 97 :: 98 :: t.data.toList := by rw [str_join]; rfl
  have has : (⟨#[97, 98]⟩ ++ t : ByteArray).size ≤ 200 := by rw [ByteArray.size_append]; show 2 + t.size ≤ 200; omega
  have HAB := Lib.hid hab
  have HAS := Lib.hid has
  clear hab has
  obtain ⟨c, hc⟩ : ∃ c, Nm.check (⟨#[97, 98]⟩ ++ t : ByteArray).data.toList = c := ⟨_, rfl⟩
  have HC := Lib.hid hc
  clear hc
  go_wp2_with fail
  refine (ncheck_at _ _ _ HC.out ht hm HAS.out).mono ?_
  first | rintro e w1 rfl hb1 | rintro e w1 ⟨rfl, hb1⟩
  have ht1 := ht.below hb1 (Nat.le_refl _)
  have hm1 := hm.below hb1 (Nat.le_refl _)
  by_cases hc0 : c = 0
  rotate_left
  · have hcb : (c != 0) = true := by simpa using hc0
    go_wp2_with fail
    refine (awake7_any _ ht1 hm1).mono ?_
    first | rintro e w2 rfl hb2 | rintro e w2 ⟨rfl, hb2⟩
    go_wp2_with fail
    go_ret
    exact ⟨rfl, hb1.trans (hb2.mono hb1.size)⟩
  subst hc0
  have hk7 : k % 7 = 0 ∨ k % 7 = 1 ∨ k % 7 = 2 ∨ k % 7 = 3 ∨ k % 7 = 4 ∨ k % 7 = 5 ∨ k % 7 = 6 := by omega
  rcases hk7 with hk7 | hk7 | hk7 | hk7 | hk7 | hk7 | hk7
  · have hsp := Nm.spelt 0 (by decide) ⟨#[32]⟩ t rfl hl HC.out
    have H1 := Lib.hid hsp.1
    have H2 := Lib.hid hsp.2.1
    have H3 := Lib.hid hsp.2.2
    clear hsp
    go_wp2_with fail
    have ht1' := ht1.below ((Below.refl _ w1).alloc (Nat.le_refl _) (.cells #[.string ⟨#[32]⟩, .string ⟨#[39]⟩, .string ⟨#[45]⟩, .string ⟨#[46]⟩, .string ⟨#[40]⟩, .string ⟨#[41]⟩, .string ⟨#[]⟩] 9)) (Nat.le_refl _)
    have hm1' := hm1.below ((Below.refl _ w1).alloc (Nat.le_refl _) (.cells #[.string ⟨#[32]⟩, .string ⟨#[39]⟩, .string ⟨#[45]⟩, .string ⟨#[46]⟩, .string ⟨#[40]⟩, .string ⟨#[41]⟩, .string ⟨#[]⟩] 9)) (Nat.le_refl _)
    refine (nkey_at _ _ _ H2.out H1.out ht1' hm1' H3.out).mono ?_
    rintro e w2 ⟨hb2, v2, ho2, rfl⟩
    have ht2 := ht1'.below hb2 (Nat.le_refl _)
    have hm2 := hm1'.below hb2 (Nat.le_refl _)
    have hb02 : Below w.heap.size w w2 := hb1.trans ((((Below.refl _ w1).alloc (Nat.le_refl _) _).trans (hb2.mono (by simp))).mono hb1.size)
    clear ht1' hm1'
    go_wp2_with fail
    refine (nkey_at _ _ _ rfl HC.out ht2 hm2 HAS.out).mono ?_
    rintro e w3 ⟨hb3, v3, ho3, rfl⟩
    have ht3 := ht2.below hb3 (Nat.le_refl _)
    have hm3 := hm2.below hb3 (Nat.le_refl _)
    have hb03 : Below w.heap.size w w3 := hb02.trans (hb3.mono hb02.size)
    have ho23 := ho2.below hb3 (Nat.le_refl _)
    go_wp2_with fail
    refine (awake7_any _ ht3 hm3).mono ?_
    first | rintro e w4 rfl hb4 | rintro e w4 ⟨rfl, hb4⟩
    have ht4 := ht3.below hb4 (Nat.le_refl _)
    have hm4 := hm3.below hb4 (Nat.le_refl _)
    have hb04 : Below w.heap.size w w4 := hb03.trans (hb4.mono hb03.size)
    have ho24 := ho23.below hb4 (Nat.le_refl _)
    have ho34 := ho3.below hb4 (Nat.le_refl _)
    have hkl := Nm.key_len (⟨#[97, 98]⟩ ++ t : ByteArray).data.toList
    obtain ⟨n, hn⟩ : ∃ n, (Nm.key (⟨#[97, 98]⟩ ++ t : ByteArray).data.toList).length = n := ⟨_, rfl⟩
    rw [hn] at hkl
    obtain ⟨A2, c2, rfl, _, hR2, _⟩ := ho24.form_n hn
    obtain ⟨A3, c3, rfl, _, hR3, _⟩ := ho34.form_n hn
    have HN := Lib.hid hn
    clear hn
    go_wp2_with fail
    refine (same4_any _ _ _ _ _ _ n n _ HN.out HN.out hR2 hR3 (by omega)).mono ?_
    first | rintro e w5 rfl hb5 | rintro e w5 ⟨rfl, hb5⟩
    try rw [decide_eq_true rfl]
    have ht5 := ht4.below hb5 (Nat.le_refl _)
    have hm5 := hm4.below hb5 (Nat.le_refl _)
    have hb05 : Below w.heap.size w w5 := hb04.trans (hb5.mono hb04.size)
    go_wp2_with fail
    refine (nbegins_at _ _ _ _ (Nm.begins_eq H1.out HC.out H2.out) ht5 hm5 H3.out HAS.out).mono ?_
    first | rintro e w6 rfl hb6 | rintro e w6 ⟨rfl, hb6⟩
    have ht6 := ht5.below hb6 (Nat.le_refl _)
    have hm6 := hm5.below hb6 (Nat.le_refl _)
    have hb06 : Below w.heap.size w w6 := hb05.trans (hb6.mono hb05.size)
    go_wp2_with fail
    refine (nbegins_at _ _ _ _ (Nm.begins_eq HC.out H1.out H2.out.symm) ht6 hm6 HAS.out H3.out).mono ?_
    first | rintro e w7 rfl hb7 | rintro e w7 ⟨rfl, hb7⟩
    go_wp2_with fail
    go_ret
    exact ⟨rfl, hb06.trans (hb7.mono hb06.size)⟩
  · have hsp := Nm.spelt 1 (by decide) ⟨#[39]⟩ t rfl hl HC.out
    have H1 := Lib.hid hsp.1
    have H2 := Lib.hid hsp.2.1
    have H3 := Lib.hid hsp.2.2
    clear hsp
    go_wp2_with fail
    have ht1' := ht1.below ((Below.refl _ w1).alloc (Nat.le_refl _) (.cells #[.string ⟨#[32]⟩, .string ⟨#[39]⟩, .string ⟨#[45]⟩, .string ⟨#[46]⟩, .string ⟨#[40]⟩, .string ⟨#[41]⟩, .string ⟨#[]⟩] 9)) (Nat.le_refl _)
    have hm1' := hm1.below ((Below.refl _ w1).alloc (Nat.le_refl _) (.cells #[.string ⟨#[32]⟩, .string ⟨#[39]⟩, .string ⟨#[45]⟩, .string ⟨#[46]⟩, .string ⟨#[40]⟩, .string ⟨#[41]⟩, .string ⟨#[]⟩] 9)) (Nat.le_refl _)
    refine (nkey_at _ _ _ H2.out H1.out ht1' hm1' H3.out).mono ?_
    rintro e w2 ⟨hb2, v2, ho2, rfl⟩
    have ht2 := ht1'.below hb2 (Nat.le_refl _)
    have hm2 := hm1'.below hb2 (Nat.le_refl _)
    have hb02 : Below w.heap.size w w2 := hb1.trans ((((Below.refl _ w1).alloc (Nat.le_refl _) _).trans (hb2.mono (by simp))).mono hb1.size)
    clear ht1' hm1'
    go_wp2_with fail
    refine (nkey_at _ _ _ rfl HC.out ht2 hm2 HAS.out).mono ?_
    rintro e w3 ⟨hb3, v3, ho3, rfl⟩
    have ht3 := ht2.below hb3 (Nat.le_refl _)
    have hm3 := hm2.below hb3 (Nat.le_refl _)
    have hb03 : Below w.heap.size w w3 := hb02.trans (hb3.mono hb02.size)
    have ho23 := ho2.below hb3 (Nat.le_refl _)
    go_wp2_with fail
    refine (awake7_any _ ht3 hm3).mono ?_
    first | rintro e w4 rfl hb4 | rintro e w4 ⟨rfl, hb4⟩
    have ht4 := ht3.below hb4 (Nat.le_refl _)
    have hm4 := hm3.below hb4 (Nat.le_refl _)
    have hb04 : Below w.heap.size w w4 := hb03.trans (hb4.mono hb03.size)
    have ho24 := ho23.below hb4 (Nat.le_refl _)
    have ho34 := ho3.below hb4 (Nat.le_refl _)
    have hkl := Nm.key_len (⟨#[97, 98]⟩ ++ t : ByteArray).data.toList
    obtain ⟨n, hn⟩ : ∃ n, (Nm.key (⟨#[97, 98]⟩ ++ t : ByteArray).data.toList).length = n := ⟨_, rfl⟩
    rw [hn] at hkl
    obtain ⟨A2, c2, rfl, _, hR2, _⟩ := ho24.form_n hn
    obtain ⟨A3, c3, rfl, _, hR3, _⟩ := ho34.form_n hn
    have HN := Lib.hid hn
    clear hn
    go_wp2_with fail
    refine (same4_any _ _ _ _ _ _ n n _ HN.out HN.out hR2 hR3 (by omega)).mono ?_
    first | rintro e w5 rfl hb5 | rintro e w5 ⟨rfl, hb5⟩
    try rw [decide_eq_true rfl]
    have ht5 := ht4.below hb5 (Nat.le_refl _)
    have hm5 := hm4.below hb5 (Nat.le_refl _)
    have hb05 : Below w.heap.size w w5 := hb04.trans (hb5.mono hb04.size)
    go_wp2_with fail
    refine (nbegins_at _ _ _ _ (Nm.begins_eq H1.out HC.out H2.out) ht5 hm5 H3.out HAS.out).mono ?_
    first | rintro e w6 rfl hb6 | rintro e w6 ⟨rfl, hb6⟩
    have ht6 := ht5.below hb6 (Nat.le_refl _)
    have hm6 := hm5.below hb6 (Nat.le_refl _)
    have hb06 : Below w.heap.size w w6 := hb05.trans (hb6.mono hb05.size)
    go_wp2_with fail
    refine (nbegins_at _ _ _ _ (Nm.begins_eq HC.out H1.out H2.out.symm) ht6 hm6 HAS.out H3.out).mono ?_
    first | rintro e w7 rfl hb7 | rintro e w7 ⟨rfl, hb7⟩
    go_wp2_with fail
    go_ret
    exact ⟨rfl, hb06.trans (hb7.mono hb06.size)⟩
  · have hsp := Nm.spelt 2 (by decide) ⟨#[45]⟩ t rfl hl HC.out
    have H1 := Lib.hid hsp.1
    have H2 := Lib.hid hsp.2.1
    have H3 := Lib.hid hsp.2.2
    clear hsp
    go_wp2_with fail
    have ht1' := ht1.below ((Below.refl _ w1).alloc (Nat.le_refl _) (.cells #[.string ⟨#[32]⟩, .string ⟨#[39]⟩, .string ⟨#[45]⟩, .string ⟨#[46]⟩, .string ⟨#[40]⟩, .string ⟨#[41]⟩, .string ⟨#[]⟩] 9)) (Nat.le_refl _)
    have hm1' := hm1.below ((Below.refl _ w1).alloc (Nat.le_refl _) (.cells #[.string ⟨#[32]⟩, .string ⟨#[39]⟩, .string ⟨#[45]⟩, .string ⟨#[46]⟩, .string ⟨#[40]⟩, .string ⟨#[41]⟩, .string ⟨#[]⟩] 9)) (Nat.le_refl _)
    refine (nkey_at _ _ _ H2.out H1.out ht1' hm1' H3.out).mono ?_
    rintro e w2 ⟨hb2, v2, ho2, rfl⟩
    have ht2 := ht1'.below hb2 (Nat.le_refl _)
    have hm2 := hm1'.below hb2 (Nat.le_refl _)
    have hb02 : Below w.heap.size w w2 := hb1.trans ((((Below.refl _ w1).alloc (Nat.le_refl _) _).trans (hb2.mono (by simp))).mono hb1.size)
    clear ht1' hm1'
    go_wp2_with fail
    refine (nkey_at _ _ _ rfl HC.out ht2 hm2 HAS.out).mono ?_
    rintro e w3 ⟨hb3, v3, ho3, rfl⟩
    have ht3 := ht2.below hb3 (Nat.le_refl _)
    have hm3 := hm2.below hb3 (Nat.le_refl _)
    have hb03 : Below w.heap.size w w3 := hb02.trans (hb3.mono hb02.size)
    have ho23 := ho2.below hb3 (Nat.le_refl _)
    go_wp2_with fail
    refine (awake7_any _ ht3 hm3).mono ?_
    first | rintro e w4 rfl hb4 | rintro e w4 ⟨rfl, hb4⟩
    have ht4 := ht3.below hb4 (Nat.le_refl _)
    have hm4 := hm3.below hb4 (Nat.le_refl _)
    have hb04 : Below w.heap.size w w4 := hb03.trans (hb4.mono hb03.size)
    have ho24 := ho23.below hb4 (Nat.le_refl _)
    have ho34 := ho3.below hb4 (Nat.le_refl _)
    have hkl := Nm.key_len (⟨#[97, 98]⟩ ++ t : ByteArray).data.toList
    obtain ⟨n, hn⟩ : ∃ n, (Nm.key (⟨#[97, 98]⟩ ++ t : ByteArray).data.toList).length = n := ⟨_, rfl⟩
    rw [hn] at hkl
    obtain ⟨A2, c2, rfl, _, hR2, _⟩ := ho24.form_n hn
    obtain ⟨A3, c3, rfl, _, hR3, _⟩ := ho34.form_n hn
    have HN := Lib.hid hn
    clear hn
    go_wp2_with fail
    refine (same4_any _ _ _ _ _ _ n n _ HN.out HN.out hR2 hR3 (by omega)).mono ?_
    first | rintro e w5 rfl hb5 | rintro e w5 ⟨rfl, hb5⟩
    try rw [decide_eq_true rfl]
    have ht5 := ht4.below hb5 (Nat.le_refl _)
    have hm5 := hm4.below hb5 (Nat.le_refl _)
    have hb05 : Below w.heap.size w w5 := hb04.trans (hb5.mono hb04.size)
    go_wp2_with fail
    refine (nbegins_at _ _ _ _ (Nm.begins_eq H1.out HC.out H2.out) ht5 hm5 H3.out HAS.out).mono ?_
    first | rintro e w6 rfl hb6 | rintro e w6 ⟨rfl, hb6⟩
    have ht6 := ht5.below hb6 (Nat.le_refl _)
    have hm6 := hm5.below hb6 (Nat.le_refl _)
    have hb06 : Below w.heap.size w w6 := hb05.trans (hb6.mono hb05.size)
    go_wp2_with fail
    refine (nbegins_at _ _ _ _ (Nm.begins_eq HC.out H1.out H2.out.symm) ht6 hm6 HAS.out H3.out).mono ?_
    first | rintro e w7 rfl hb7 | rintro e w7 ⟨rfl, hb7⟩
    go_wp2_with fail
    go_ret
    exact ⟨rfl, hb06.trans (hb7.mono hb06.size)⟩
  · have hsp := Nm.spelt 3 (by decide) ⟨#[46]⟩ t rfl hl HC.out
    have H1 := Lib.hid hsp.1
    have H2 := Lib.hid hsp.2.1
    have H3 := Lib.hid hsp.2.2
    clear hsp
    go_wp2_with fail
    have ht1' := ht1.below ((Below.refl _ w1).alloc (Nat.le_refl _) (.cells #[.string ⟨#[32]⟩, .string ⟨#[39]⟩, .string ⟨#[45]⟩, .string ⟨#[46]⟩, .string ⟨#[40]⟩, .string ⟨#[41]⟩, .string ⟨#[]⟩] 9)) (Nat.le_refl _)
    have hm1' := hm1.below ((Below.refl _ w1).alloc (Nat.le_refl _) (.cells #[.string ⟨#[32]⟩, .string ⟨#[39]⟩, .string ⟨#[45]⟩, .string ⟨#[46]⟩, .string ⟨#[40]⟩, .string ⟨#[41]⟩, .string ⟨#[]⟩] 9)) (Nat.le_refl _)
    refine (nkey_at _ _ _ H2.out H1.out ht1' hm1' H3.out).mono ?_
    rintro e w2 ⟨hb2, v2, ho2, rfl⟩
    have ht2 := ht1'.below hb2 (Nat.le_refl _)
    have hm2 := hm1'.below hb2 (Nat.le_refl _)
    have hb02 : Below w.heap.size w w2 := hb1.trans ((((Below.refl _ w1).alloc (Nat.le_refl _) _).trans (hb2.mono (by simp))).mono hb1.size)
    clear ht1' hm1'
    go_wp2_with fail
    refine (nkey_at _ _ _ rfl HC.out ht2 hm2 HAS.out).mono ?_
    rintro e w3 ⟨hb3, v3, ho3, rfl⟩
    have ht3 := ht2.below hb3 (Nat.le_refl _)
    have hm3 := hm2.below hb3 (Nat.le_refl _)
    have hb03 : Below w.heap.size w w3 := hb02.trans (hb3.mono hb02.size)
    have ho23 := ho2.below hb3 (Nat.le_refl _)
    go_wp2_with fail
    refine (awake7_any _ ht3 hm3).mono ?_
    first | rintro e w4 rfl hb4 | rintro e w4 ⟨rfl, hb4⟩
    have ht4 := ht3.below hb4 (Nat.le_refl _)
    have hm4 := hm3.below hb4 (Nat.le_refl _)
    have hb04 : Below w.heap.size w w4 := hb03.trans (hb4.mono hb03.size)
    have ho24 := ho23.below hb4 (Nat.le_refl _)
    have ho34 := ho3.below hb4 (Nat.le_refl _)
    have hkl := Nm.key_len (⟨#[97, 98]⟩ ++ t : ByteArray).data.toList
    obtain ⟨n, hn⟩ : ∃ n, (Nm.key (⟨#[97, 98]⟩ ++ t : ByteArray).data.toList).length = n := ⟨_, rfl⟩
    rw [hn] at hkl
    obtain ⟨A2, c2, rfl, _, hR2, _⟩ := ho24.form_n hn
    obtain ⟨A3, c3, rfl, _, hR3, _⟩ := ho34.form_n hn
    have HN := Lib.hid hn
    clear hn
    go_wp2_with fail
    refine (same4_any _ _ _ _ _ _ n n _ HN.out HN.out hR2 hR3 (by omega)).mono ?_
    first | rintro e w5 rfl hb5 | rintro e w5 ⟨rfl, hb5⟩
    try rw [decide_eq_true rfl]
    have ht5 := ht4.below hb5 (Nat.le_refl _)
    have hm5 := hm4.below hb5 (Nat.le_refl _)
    have hb05 : Below w.heap.size w w5 := hb04.trans (hb5.mono hb04.size)
    go_wp2_with fail
    refine (nbegins_at _ _ _ _ (Nm.begins_eq H1.out HC.out H2.out) ht5 hm5 H3.out HAS.out).mono ?_
    first | rintro e w6 rfl hb6 | rintro e w6 ⟨rfl, hb6⟩
    have ht6 := ht5.below hb6 (Nat.le_refl _)
    have hm6 := hm5.below hb6 (Nat.le_refl _)
    have hb06 : Below w.heap.size w w6 := hb05.trans (hb6.mono hb05.size)
    go_wp2_with fail
    refine (nbegins_at _ _ _ _ (Nm.begins_eq HC.out H1.out H2.out.symm) ht6 hm6 HAS.out H3.out).mono ?_
    first | rintro e w7 rfl hb7 | rintro e w7 ⟨rfl, hb7⟩
    go_wp2_with fail
    go_ret
    exact ⟨rfl, hb06.trans (hb7.mono hb06.size)⟩
  · have hsp := Nm.spelt 4 (by decide) ⟨#[40]⟩ t rfl hl HC.out
    have H1 := Lib.hid hsp.1
    have H2 := Lib.hid hsp.2.1
    have H3 := Lib.hid hsp.2.2
    clear hsp
    go_wp2_with fail
    have ht1' := ht1.below ((Below.refl _ w1).alloc (Nat.le_refl _) (.cells #[.string ⟨#[32]⟩, .string ⟨#[39]⟩, .string ⟨#[45]⟩, .string ⟨#[46]⟩, .string ⟨#[40]⟩, .string ⟨#[41]⟩, .string ⟨#[]⟩] 9)) (Nat.le_refl _)
    have hm1' := hm1.below ((Below.refl _ w1).alloc (Nat.le_refl _) (.cells #[.string ⟨#[32]⟩, .string ⟨#[39]⟩, .string ⟨#[45]⟩, .string ⟨#[46]⟩, .string ⟨#[40]⟩, .string ⟨#[41]⟩, .string ⟨#[]⟩] 9)) (Nat.le_refl _)
    refine (nkey_at _ _ _ H2.out H1.out ht1' hm1' H3.out).mono ?_
    rintro e w2 ⟨hb2, v2, ho2, rfl⟩
    have ht2 := ht1'.below hb2 (Nat.le_refl _)
    have hm2 := hm1'.below hb2 (Nat.le_refl _)
    have hb02 : Below w.heap.size w w2 := hb1.trans ((((Below.refl _ w1).alloc (Nat.le_refl _) _).trans (hb2.mono (by simp))).mono hb1.size)
    clear ht1' hm1'
    go_wp2_with fail
    refine (nkey_at _ _ _ rfl HC.out ht2 hm2 HAS.out).mono ?_
    rintro e w3 ⟨hb3, v3, ho3, rfl⟩
    have ht3 := ht2.below hb3 (Nat.le_refl _)
    have hm3 := hm2.below hb3 (Nat.le_refl _)
    have hb03 : Below w.heap.size w w3 := hb02.trans (hb3.mono hb02.size)
    have ho23 := ho2.below hb3 (Nat.le_refl _)
    go_wp2_with fail
    refine (awake7_any _ ht3 hm3).mono ?_
    first | rintro e w4 rfl hb4 | rintro e w4 ⟨rfl, hb4⟩
    have ht4 := ht3.below hb4 (Nat.le_refl _)
    have hm4 := hm3.below hb4 (Nat.le_refl _)
    have hb04 : Below w.heap.size w w4 := hb03.trans (hb4.mono hb03.size)
    have ho24 := ho23.below hb4 (Nat.le_refl _)
    have ho34 := ho3.below hb4 (Nat.le_refl _)
    have hkl := Nm.key_len (⟨#[97, 98]⟩ ++ t : ByteArray).data.toList
    obtain ⟨n, hn⟩ : ∃ n, (Nm.key (⟨#[97, 98]⟩ ++ t : ByteArray).data.toList).length = n := ⟨_, rfl⟩
    rw [hn] at hkl
    obtain ⟨A2, c2, rfl, _, hR2, _⟩ := ho24.form_n hn
    obtain ⟨A3, c3, rfl, _, hR3, _⟩ := ho34.form_n hn
    have HN := Lib.hid hn
    clear hn
    go_wp2_with fail
    refine (same4_any _ _ _ _ _ _ n n _ HN.out HN.out hR2 hR3 (by omega)).mono ?_
    first | rintro e w5 rfl hb5 | rintro e w5 ⟨rfl, hb5⟩
    try rw [decide_eq_true rfl]
    have ht5 := ht4.below hb5 (Nat.le_refl _)
    have hm5 := hm4.below hb5 (Nat.le_refl _)
    have hb05 : Below w.heap.size w w5 := hb04.trans (hb5.mono hb04.size)
    go_wp2_with fail
    refine (nbegins_at _ _ _ _ (Nm.begins_eq H1.out HC.out H2.out) ht5 hm5 H3.out HAS.out).mono ?_
    first | rintro e w6 rfl hb6 | rintro e w6 ⟨rfl, hb6⟩
    have ht6 := ht5.below hb6 (Nat.le_refl _)
    have hm6 := hm5.below hb6 (Nat.le_refl _)
    have hb06 : Below w.heap.size w w6 := hb05.trans (hb6.mono hb05.size)
    go_wp2_with fail
    refine (nbegins_at _ _ _ _ (Nm.begins_eq HC.out H1.out H2.out.symm) ht6 hm6 HAS.out H3.out).mono ?_
    first | rintro e w7 rfl hb7 | rintro e w7 ⟨rfl, hb7⟩
    go_wp2_with fail
    go_ret
    exact ⟨rfl, hb06.trans (hb7.mono hb06.size)⟩
  · have hsp := Nm.spelt 5 (by decide) ⟨#[41]⟩ t rfl hl HC.out
    have H1 := Lib.hid hsp.1
    have H2 := Lib.hid hsp.2.1
    have H3 := Lib.hid hsp.2.2
    clear hsp
    go_wp2_with fail
    have ht1' := ht1.below ((Below.refl _ w1).alloc (Nat.le_refl _) (.cells #[.string ⟨#[32]⟩, .string ⟨#[39]⟩, .string ⟨#[45]⟩, .string ⟨#[46]⟩, .string ⟨#[40]⟩, .string ⟨#[41]⟩, .string ⟨#[]⟩] 9)) (Nat.le_refl _)
    have hm1' := hm1.below ((Below.refl _ w1).alloc (Nat.le_refl _) (.cells #[.string ⟨#[32]⟩, .string ⟨#[39]⟩, .string ⟨#[45]⟩, .string ⟨#[46]⟩, .string ⟨#[40]⟩, .string ⟨#[41]⟩, .string ⟨#[]⟩] 9)) (Nat.le_refl _)
    refine (nkey_at _ _ _ H2.out H1.out ht1' hm1' H3.out).mono ?_
    rintro e w2 ⟨hb2, v2, ho2, rfl⟩
    have ht2 := ht1'.below hb2 (Nat.le_refl _)
    have hm2 := hm1'.below hb2 (Nat.le_refl _)
    have hb02 : Below w.heap.size w w2 := hb1.trans ((((Below.refl _ w1).alloc (Nat.le_refl _) _).trans (hb2.mono (by simp))).mono hb1.size)
    clear ht1' hm1'
    go_wp2_with fail
    refine (nkey_at _ _ _ rfl HC.out ht2 hm2 HAS.out).mono ?_
    rintro e w3 ⟨hb3, v3, ho3, rfl⟩
    have ht3 := ht2.below hb3 (Nat.le_refl _)
    have hm3 := hm2.below hb3 (Nat.le_refl _)
    have hb03 : Below w.heap.size w w3 := hb02.trans (hb3.mono hb02.size)
    have ho23 := ho2.below hb3 (Nat.le_refl _)
    go_wp2_with fail
    refine (awake7_any _ ht3 hm3).mono ?_
    first | rintro e w4 rfl hb4 | rintro e w4 ⟨rfl, hb4⟩
    have ht4 := ht3.below hb4 (Nat.le_refl _)
    have hm4 := hm3.below hb4 (Nat.le_refl _)
    have hb04 : Below w.heap.size w w4 := hb03.trans (hb4.mono hb03.size)
    have ho24 := ho23.below hb4 (Nat.le_refl _)
    have ho34 := ho3.below hb4 (Nat.le_refl _)
    have hkl := Nm.key_len (⟨#[97, 98]⟩ ++ t : ByteArray).data.toList
    obtain ⟨n, hn⟩ : ∃ n, (Nm.key (⟨#[97, 98]⟩ ++ t : ByteArray).data.toList).length = n := ⟨_, rfl⟩
    rw [hn] at hkl
    obtain ⟨A2, c2, rfl, _, hR2, _⟩ := ho24.form_n hn
    obtain ⟨A3, c3, rfl, _, hR3, _⟩ := ho34.form_n hn
    have HN := Lib.hid hn
    clear hn
    go_wp2_with fail
    refine (same4_any _ _ _ _ _ _ n n _ HN.out HN.out hR2 hR3 (by omega)).mono ?_
    first | rintro e w5 rfl hb5 | rintro e w5 ⟨rfl, hb5⟩
    try rw [decide_eq_true rfl]
    have ht5 := ht4.below hb5 (Nat.le_refl _)
    have hm5 := hm4.below hb5 (Nat.le_refl _)
    have hb05 : Below w.heap.size w w5 := hb04.trans (hb5.mono hb04.size)
    go_wp2_with fail
    refine (nbegins_at _ _ _ _ (Nm.begins_eq H1.out HC.out H2.out) ht5 hm5 H3.out HAS.out).mono ?_
    first | rintro e w6 rfl hb6 | rintro e w6 ⟨rfl, hb6⟩
    have ht6 := ht5.below hb6 (Nat.le_refl _)
    have hm6 := hm5.below hb6 (Nat.le_refl _)
    have hb06 : Below w.heap.size w w6 := hb05.trans (hb6.mono hb05.size)
    go_wp2_with fail
    refine (nbegins_at _ _ _ _ (Nm.begins_eq HC.out H1.out H2.out.symm) ht6 hm6 HAS.out H3.out).mono ?_
    first | rintro e w7 rfl hb7 | rintro e w7 ⟨rfl, hb7⟩
    go_wp2_with fail
    go_ret
    exact ⟨rfl, hb06.trans (hb7.mono hb06.size)⟩
  · have hsp := Nm.spelt 6 (by decide) ⟨#[]⟩ t rfl hl HC.out
    have H1 := Lib.hid hsp.1
    have H2 := Lib.hid hsp.2.1
    have H3 := Lib.hid hsp.2.2
    clear hsp
    go_wp2_with fail
    have ht1' := ht1.below ((Below.refl _ w1).alloc (Nat.le_refl _) (.cells #[.string ⟨#[32]⟩, .string ⟨#[39]⟩, .string ⟨#[45]⟩, .string ⟨#[46]⟩, .string ⟨#[40]⟩, .string ⟨#[41]⟩, .string ⟨#[]⟩] 9)) (Nat.le_refl _)
    have hm1' := hm1.below ((Below.refl _ w1).alloc (Nat.le_refl _) (.cells #[.string ⟨#[32]⟩, .string ⟨#[39]⟩, .string ⟨#[45]⟩, .string ⟨#[46]⟩, .string ⟨#[40]⟩, .string ⟨#[41]⟩, .string ⟨#[]⟩] 9)) (Nat.le_refl _)
    refine (nkey_at _ _ _ H2.out H1.out ht1' hm1' H3.out).mono ?_
    rintro e w2 ⟨hb2, v2, ho2, rfl⟩
    have ht2 := ht1'.below hb2 (Nat.le_refl _)
    have hm2 := hm1'.below hb2 (Nat.le_refl _)
    have hb02 : Below w.heap.size w w2 := hb1.trans ((((Below.refl _ w1).alloc (Nat.le_refl _) _).trans (hb2.mono (by simp))).mono hb1.size)
    clear ht1' hm1'
    go_wp2_with fail
    refine (nkey_at _ _ _ rfl HC.out ht2 hm2 HAS.out).mono ?_
    rintro e w3 ⟨hb3, v3, ho3, rfl⟩
    have ht3 := ht2.below hb3 (Nat.le_refl _)
    have hm3 := hm2.below hb3 (Nat.le_refl _)
    have hb03 : Below w.heap.size w w3 := hb02.trans (hb3.mono hb02.size)
    have ho23 := ho2.below hb3 (Nat.le_refl _)
    go_wp2_with fail
    refine (awake7_any _ ht3 hm3).mono ?_
    first | rintro e w4 rfl hb4 | rintro e w4 ⟨rfl, hb4⟩
    have ht4 := ht3.below hb4 (Nat.le_refl _)
    have hm4 := hm3.below hb4 (Nat.le_refl _)
    have hb04 : Below w.heap.size w w4 := hb03.trans (hb4.mono hb03.size)
    have ho24 := ho23.below hb4 (Nat.le_refl _)
    have ho34 := ho3.below hb4 (Nat.le_refl _)
    have hkl := Nm.key_len (⟨#[97, 98]⟩ ++ t : ByteArray).data.toList
    obtain ⟨n, hn⟩ : ∃ n, (Nm.key (⟨#[97, 98]⟩ ++ t : ByteArray).data.toList).length = n := ⟨_, rfl⟩
    rw [hn] at hkl
    obtain ⟨A2, c2, rfl, _, hR2, _⟩ := ho24.form_n hn
    obtain ⟨A3, c3, rfl, _, hR3, _⟩ := ho34.form_n hn
    have HN := Lib.hid hn
    clear hn
    go_wp2_with fail
    refine (same4_any _ _ _ _ _ _ n n _ HN.out HN.out hR2 hR3 (by omega)).mono ?_
    first | rintro e w5 rfl hb5 | rintro e w5 ⟨rfl, hb5⟩
    try rw [decide_eq_true rfl]
    have ht5 := ht4.below hb5 (Nat.le_refl _)
    have hm5 := hm4.below hb5 (Nat.le_refl _)
    have hb05 : Below w.heap.size w w5 := hb04.trans (hb5.mono hb04.size)
    go_wp2_with fail
    refine (nbegins_at _ _ _ _ (Nm.begins_eq H1.out HC.out H2.out) ht5 hm5 H3.out HAS.out).mono ?_
    first | rintro e w6 rfl hb6 | rintro e w6 ⟨rfl, hb6⟩
    have ht6 := ht5.below hb6 (Nat.le_refl _)
    have hm6 := hm5.below hb6 (Nat.le_refl _)
    have hb06 : Below w.heap.size w w6 := hb05.trans (hb6.mono hb05.size)
    go_wp2_with fail
    refine (nbegins_at _ _ _ _ (Nm.begins_eq HC.out H1.out H2.out.symm) ht6 hm6 HAS.out H3.out).mono ?_
    first | rintro e w7 rfl hb7 | rintro e w7 ⟨rfl, hb7⟩
    go_wp2_with fail
    go_ret
    exact ⟨rfl, hb06.trans (hb7.mono hb06.size)⟩
end Go.Proofs.YtlcjfphhogcenaaDoor
