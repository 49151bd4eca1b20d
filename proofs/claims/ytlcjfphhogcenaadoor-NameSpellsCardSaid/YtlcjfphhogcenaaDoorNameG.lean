/-
  Walks of layer 7: Cmp and Begins of the program and of the reference.
-/
import Derived.Test.YtlcjfphhogcenaaDoorNameF
set_option linter.unusedVariables false
set_option linter.unusedSimpArgs false
namespace Go.Proofs.YtlcjfphhogcenaaDoor
open Go.RowKit

/-- The order of two strings as names. -/
def Nm.cmp (a b : List UInt8) : Int :=
  if Nm.check a ≠ 0 ∧ Nm.check b = 0 then -1 else if Nm.check a = 0 ∧ Nm.check b ≠ 0 then 1
  else if Nm.cmpI (Nm.key a) (Nm.key b) = 0 then Lib.compareBytes a b else Nm.cmpI (Nm.key a) (Nm.key b)
/-- Does the name a begin with b? -/
def Nm.begins (a b : List UInt8) : Bool := decide (Nm.check a = 0 ∧ (b = [] ∨ (Nm.check b = 0 ∧ Nm.key b <+: Nm.key a)))

theorem Nm.key_err {l : List UInt8} (h : Nm.check l ≠ 0) : Nm.key l = [] := by unfold Nm.key; rw [Nm.read_err h]; rfl
theorem Nm.key_len (l : List UInt8) : (Nm.key l).length ≤ 40 := by
  by_cases h : Nm.check l = 0
  · have := (Nm.read_ok h).2.2
    unfold Nm.key Nm.keyOf
    rw [List.length_map]
    exact Nat.le_trans (List.length_filter_le _ _) this
  · rw [Nm.key_err h]; simp
theorem compareS_k (a b : ByteArray) (w : World) : Calls Tryd.prog 67 #[.string a, .string b] w fun e w' => e = .returned (.int .i64 (Lib.compareBytes a.data.toList b.data.toList)) ∧ w = w' :=
  (Tryd.strings_Compare a b w).mono fun _ _ h => ⟨h.1, h.2.symm⟩

set_option maxHeartbeats 4000000 in
theorem ncmp_any (a b : ByteArray) (w : World) (ht : Gl.Tab w) (hm : MaxOk w) (ha : a.size ≤ 1000000000000) (hb : b.size ≤ 1000000000000) :
    Calls Tryd.prog 41 #[.string a, .string b] w fun e w' => e = .returned (.int .i64 (Nm.cmp a.data.toList b.data.toList)) ∧ Below w.heap.size w w' := by
  go_enter Tryd.func41, Tryd.ntmps41
  go_wp2_with (go_at_call 36; refine (nkey_any _ _ ht hm ha).mono ?_)
  rintro e w1 ⟨hb1, v1, ho1, rfl⟩
  have ht1 := ht.below hb1 (Nat.le_refl _)
  have hm1 := hm.below hb1 (Nat.le_refl _)
  go_wp2_with (go_at_call 36; refine (nkey_any _ _ ht1 hm1 hb).mono ?_)
  rintro e w2 ⟨hb2, v2, ho2, rfl⟩
  have hb02 : Below w.heap.size w w2 := hb1.trans (hb2.mono hb1.size)
  have ho12 := ho1.below hb2 (Nat.le_refl _)
  have HC : Hid (∀ x, Nm.cmp a.data.toList b.data.toList = x ↔ Nm.cmp a.data.toList b.data.toList = x) := Lib.hid (fun _ => Iff.rfl)
  have hl1 := Nm.key_len a.data.toList
  have hl2 := Nm.key_len b.data.toList
  obtain ⟨n1, hn1⟩ : ∃ n, (Nm.key a.data.toList).length = n := ⟨_, rfl⟩
  obtain ⟨n2, hn2⟩ : ∃ n, (Nm.key b.data.toList).length = n := ⟨_, rfl⟩
  rw [hn1] at hl1
  rw [hn2] at hl2
  obtain ⟨A1, c1, rfl, _, hR1, _⟩ := ho12.form_n hn1
  obtain ⟨A2, c2, rfl, _, hR2, _⟩ := ho2.form_n hn2
  have H1 := Lib.hid hn1
  have H2 := Lib.hid hn2
  clear hn1 hn2 HC
  by_cases ca : Nm.check a.data.toList = 0
  · by_cases cb : Nm.check b.data.toList = 0
    · have HR : Hid (Nm.cmp a.data.toList b.data.toList = if Nm.cmpI (Nm.key a.data.toList) (Nm.key b.data.toList) = 0 then Lib.compareBytes a.data.toList b.data.toList else Nm.cmpI (Nm.key a.data.toList) (Nm.key b.data.toList)) := Lib.hid (by unfold Nm.cmp; rw [if_neg (fun h => h.1 ca), if_neg (fun h => h.2 cb)])
      rw [ca, cb]
      clear ca cb
      go_wp2_with (go_at_call 66; refine (compare_any _ _ _ _ _ _ n1 n2 _ H1.out H2.out hR1 hR2 (by omega) (by omega)).mono ?_)
      first | rintro e w3 rfl hb3 | rintro e w3 ⟨rfl, hb3⟩
      have hb03 : Below w.heap.size w w3 := hb02.trans (hb3.mono hb02.size)
      by_cases hz : Nm.cmpI (Nm.key a.data.toList) (Nm.key b.data.toList) = 0
      · have HF : Hid (Nm.cmp a.data.toList b.data.toList = Lib.compareBytes a.data.toList b.data.toList) := Lib.hid (by rw [HR.out, if_pos hz])
        rw [hz]
        clear hz HR
        go_wp2_with (go_at_call 67; refine (compareS_k _ _ _).mono ?_; first | rintro e w' rfl rfl | rintro e w' ⟨rfl, rfl⟩)
        go_ret
        exact ⟨ret_int HF.out.symm, hb03⟩
      · have HF : Hid (Nm.cmp a.data.toList b.data.toList = Nm.cmpI (Nm.key a.data.toList) (Nm.key b.data.toList)) := Lib.hid (by rw [HR.out, if_neg hz])
        have hzb : (Nm.cmpI (Nm.key a.data.toList) (Nm.key b.data.toList) == 0) = false := by simpa using hz
        clear hz HR
        go_wp2_with fail
        go_ret
        exact ⟨ret_int HF.out.symm, hb03⟩
    · have HF : Hid (Nm.cmp a.data.toList b.data.toList = 1) := Lib.hid (by unfold Nm.cmp; rw [if_neg (fun h => h.1 ca), if_pos ⟨ca, cb⟩])
      have cbb : (Nm.check b.data.toList != 0) = true := by simp [cb]
      have cbe : (Nm.check b.data.toList == 0) = false := by simp [cb]
      rw [ca]
      clear ca cb
      go_wp2_with fail
      go_ret
      exact ⟨ret_int HF.out.symm, hb02⟩
  · have cab : (Nm.check a.data.toList != 0) = true := by simp [ca]
    have cae : (Nm.check a.data.toList == 0) = false := by simp [ca]
    by_cases cb : Nm.check b.data.toList = 0
    · have HF : Hid (Nm.cmp a.data.toList b.data.toList = -1) := Lib.hid (by unfold Nm.cmp; rw [if_pos ⟨ca, cb⟩])
      rw [cb]
      clear ca cb
      go_wp2_with fail
      go_ret
      exact ⟨ret_int HF.out.symm, hb02⟩
    · have HF : Hid (Nm.cmp a.data.toList b.data.toList = Lib.compareBytes a.data.toList b.data.toList) := Lib.hid (by unfold Nm.cmp; rw [if_neg (fun h => cb h.2), if_neg (fun h => ca h.1), Nm.key_err ca, Nm.key_err cb]; rfl)
      have cbe : (Nm.check b.data.toList == 0) = false := by simp [cb]
      clear ca cb
      go_wp2_with (go_at_call 67; refine (compareS_k _ _ _).mono ?_; first | rintro e w' rfl rfl | rintro e w' ⟨rfl, rfl⟩)
      go_ret
      exact ⟨ret_int HF.out.symm, hb02⟩
end Go.Proofs.YtlcjfphhogcenaaDoor
