/-
  Walks of layer 7: Cmp of the reference; Begins of the program and of the reference.
-/
import Derived.Test.YtlcjfphhogcenaaDoorNameG
set_option linter.unusedVariables false
set_option linter.unusedSimpArgs false
namespace Go.Proofs.YtlcjfphhogcenaaDoor
open Go.RowKit

set_option maxHeartbeats 4000000 in
theorem rcmp_any (a b : ByteArray) (w : World) (ha : a.size ≤ 1000000000000) (hb : b.size ≤ 1000000000000) :
    Calls Tryd.prog 42 #[.string a, .string b] w fun e w' => e = .returned (.int .i64 (Nm.cmp a.data.toList b.data.toList)) ∧ Below w.heap.size w w' := by
  go_enter Tryd.func42, Tryd.ntmps42
  go_wp2_with (go_at_call 37; refine (rkey_any _ _ ha).mono ?_)
  rintro e w1 ⟨hb1, v1, ho1, rfl⟩
  go_wp2_with (go_at_call 37; refine (rkey_any _ _ hb).mono ?_)
  rintro e w2 ⟨hb2, v2, ho2, rfl⟩
  have hb02 : Below w.heap.size w w2 := hb1.trans (hb2.mono hb1.size)
  have ho12 := ho1.below hb2 (Nat.le_refl _)
  have hl1 := Nm.key_len a.data.toList
  have hl2 := Nm.key_len b.data.toList
  obtain ⟨n1, hn1⟩ : ∃ n, (Nm.key a.data.toList).length = n := ⟨_, rfl⟩
  obtain ⟨n2, hn2⟩ : ∃ n, (Nm.key b.data.toList).length = n := ⟨_, rfl⟩
  rw [hn1] at hl1
  rw [hn2] at hl2
  obtain ⟨A1, c1, rfl, _, hR1, _⟩ := ho12.form_n hn1
  obtain ⟨A2, c2, rfl, _, hR2, _⟩ := ho2.form_n hn2
  have H1 := Lib.hid hn1
  have H2 := Lib.hid hn2
  clear hn1 hn2
  have fin : ∀ (h : ¬ (Nm.check a.data.toList ≠ 0 ∧ Nm.check b.data.toList = 0)) (h' : ¬ (Nm.check a.data.toList = 0 ∧ Nm.check b.data.toList ≠ 0)),
      Nm.cmp a.data.toList b.data.toList = if Nm.cmpI (Nm.key a.data.toList) (Nm.key b.data.toList) = 0 then Lib.compareBytes a.data.toList b.data.toList else Nm.cmpI (Nm.key a.data.toList) (Nm.key b.data.toList) := fun h h' => by unfold Nm.cmp; rw [if_neg h, if_neg h']
  have FIN := Lib.hid fin
  clear fin
  have HNA := Lib.hid (nb_length a.data.toList)
  have HNB := Lib.hid (nb_length b.data.toList)
  by_cases ca : Nm.check a.data.toList = 0
  · by_cases cb : Nm.check b.data.toList = 0
    · have HR := Lib.hid (FIN.out (fun h => h.1 ca) (fun h => h.2 cb))
      rw [ca, cb]
      clear ca cb FIN
      go_wp2_with (go_at_call 68; refine (numbers_any _ _ _ _ _ _ n1 n2 _ H1.out H2.out hR1 hR2 (by omega) (by omega)).mono ?_)
      first | rintro e w3 rfl hb3 | rintro e w3 ⟨rfl, hb3⟩
      have hb03 : Below w.heap.size w w3 := hb02.trans (hb3.mono hb02.size)
      by_cases hz : Nm.cmpI (Nm.key a.data.toList) (Nm.key b.data.toList) = 0
      · have HF : Hid (Nm.cmp a.data.toList b.data.toList = Lib.compareBytes a.data.toList b.data.toList) := Lib.hid (by rw [HR.out, if_pos hz])
        rw [hz]
        clear hz HR
        go_wp2_with (go_at_call 69; refine (bytes_any _ _ ha).mono ?_)
        rintro e w4 ⟨hb4, v4, rfl, ho4⟩
        have hb04 : Below w.heap.size w w4 := hb03.trans (hb4.mono hb03.size)
        go_wp2_with (go_at_call 69; refine (bytes_any _ _ hb).mono ?_)
        rintro e w5 ⟨hb5, v5, rfl, ho5⟩
        have hb05 : Below w.heap.size w w5 := hb04.trans (hb5.mono hb04.size)
        have ho45 := ho4.below hb5 (Nat.le_refl _)
        obtain ⟨A4, c4, rfl, _, hR4, _⟩ := ho45.form_n HNA.out
        obtain ⟨A5, c5, rfl, _, hR5, _⟩ := ho5.form_n HNB.out
        have hq1 : a.data.toList.length ≤ 1000000000000000 := by show a.size ≤ _; omega
        have hq2 : b.data.toList.length ≤ 1000000000000000 := by show b.size ≤ _; omega
        go_wp2_with (go_at_call 68; refine (numbers_any _ _ _ _ _ _ _ _ _ HNA.out HNB.out hR4 hR5 hq1 hq2).mono ?_)
        first | rintro e w6 rfl hb6 | rintro e w6 ⟨rfl, hb6⟩
        rw [nb_cmp]
        go_wp2_with fail
        go_ret
        exact ⟨ret_int HF.out.symm, hb05.trans (hb6.mono hb05.size)⟩
      · have HF : Hid (Nm.cmp a.data.toList b.data.toList = Nm.cmpI (Nm.key a.data.toList) (Nm.key b.data.toList)) := Lib.hid (by rw [HR.out, if_neg hz])
        have hzb : (Nm.cmpI (Nm.key a.data.toList) (Nm.key b.data.toList) == 0) = false := by simpa using hz
        clear hz HR
        go_wp2_with fail
        go_ret
        exact ⟨ret_int HF.out.symm, hb03⟩
    · have HF : Hid (Nm.cmp a.data.toList b.data.toList = 1) := Lib.hid (by unfold Nm.cmp; rw [if_neg (fun h => h.1 ca), if_pos ⟨ca, cb⟩])
      have cbb : (Nm.check b.data.toList != 0) = true := by simp [cb]
      have cbe : (Nm.check b.data.toList == 0) = false := by simp [cb]
      rw [ca]
      clear ca cb
      go_wp2_with fail
      go_ret
      exact ⟨ret_int HF.out.symm, hb02⟩
  · have cab : (Nm.check a.data.toList != 0) = true := by simp [ca]
    have cae : (Nm.check a.data.toList == 0) = false := by simp [ca]
    by_cases cb : Nm.check b.data.toList = 0
    · have HF : Hid (Nm.cmp a.data.toList b.data.toList = -1) := Lib.hid (by unfold Nm.cmp; rw [if_pos ⟨ca, cb⟩])
      rw [cb]
      clear ca cb
      go_wp2_with fail
      go_ret
      exact ⟨ret_int HF.out.symm, hb02⟩
    · have hk0 : Nm.cmpI (Nm.key a.data.toList) (Nm.key b.data.toList) = 0 := by rw [Nm.key_err ca, Nm.key_err cb]; rfl
      have HF : Hid (Nm.cmp a.data.toList b.data.toList = Lib.compareBytes a.data.toList b.data.toList) := Lib.hid (by rw [FIN.out (fun h => cb h.2) (fun h => ca h.1), if_pos hk0])
      have cbe : (Nm.check b.data.toList == 0) = false := by simp [cb]
      have HK0 := Lib.hid hk0
      clear ca cb FIN hk0
      go_wp2_with (go_at_call 68; refine (numbers_any _ _ _ _ _ _ n1 n2 _ H1.out H2.out hR1 hR2 (by omega) (by omega)).mono ?_)
      first | rintro e w3 rfl hb3 | rintro e w3 ⟨rfl, hb3⟩
      rw [HK0.out]
      have hb03 : Below w.heap.size w w3 := hb02.trans (hb3.mono hb02.size)
      go_wp2_with (go_at_call 69; refine (bytes_any _ _ ha).mono ?_)
      rintro e w4 ⟨hb4, v4, rfl, ho4⟩
      have hb04 : Below w.heap.size w w4 := hb03.trans (hb4.mono hb03.size)
      go_wp2_with (go_at_call 69; refine (bytes_any _ _ hb).mono ?_)
      rintro e w5 ⟨hb5, v5, rfl, ho5⟩
      have hb05 : Below w.heap.size w w5 := hb04.trans (hb5.mono hb04.size)
      have ho45 := ho4.below hb5 (Nat.le_refl _)
      obtain ⟨A4, c4, rfl, _, hR4, _⟩ := ho45.form_n HNA.out
      obtain ⟨A5, c5, rfl, _, hR5, _⟩ := ho5.form_n HNB.out
      have hq1 : a.data.toList.length ≤ 1000000000000000 := by show a.size ≤ _; omega
      have hq2 : b.data.toList.length ≤ 1000000000000000 := by show b.size ≤ _; omega
      go_wp2_with (go_at_call 68; refine (numbers_any _ _ _ _ _ _ _ _ _ HNA.out HNB.out hR4 hR5 hq1 hq2).mono ?_)
      first | rintro e w6 rfl hb6 | rintro e w6 ⟨rfl, hb6⟩
      rw [nb_cmp]
      go_wp2_with fail
      go_ret
      exact ⟨ret_int HF.out.symm, hb05.trans (hb6.mono hb05.size)⟩
end Go.Proofs.YtlcjfphhogcenaaDoor
