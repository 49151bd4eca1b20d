/-
  Walks of layer 7: Begins of the reference; Width of the program and of the reference.
-/
import Derived.Test.YtlcjfphhogcenaaDoorNameI
set_option linter.unusedVariables false
set_option linter.unusedSimpArgs false
namespace Go.Proofs.YtlcjfphhogcenaaDoor
open Go.RowKit

theorem Nm.cmpI_eq : ∀ xs ys : List Int, Nm.cmpI xs ys = 0 ↔ xs = ys
  | [], [] => by simp [Nm.cmpI]
  | [], _ :: _ => by simp [Nm.cmpI]
  | _ :: _, [] => by simp [Nm.cmpI]
  | x :: xs, y :: ys => by
    have ih := Nm.cmpI_eq xs ys
    simp only [Nm.cmpI]
    by_cases h1 : x < y
    · rw [if_pos h1]; simp; intro h; omega
    · rw [if_neg h1]
      by_cases h2 : y < x
      · rw [if_pos h2]; simp; intro h; omega
      · rw [if_neg h2, ih]; simp; intro _; omega
theorem pre_cmp {s k : List Int} {n : Nat} (h : s.length = n) : (Nm.cmpI (k.take n) s == 0) = decide (s <+: k) := by
  rw [← pre_take h, Bool.eq_iff_iff, beq_iff_eq, decide_eq_true_eq, Nm.cmpI_eq]
  exact eq_comm

set_option maxHeartbeats 4000000 in
theorem rbegins_any (a b : ByteArray) (w : World) (ha : a.size ≤ 1000000000000) (hb : b.size ≤ 1000000000000) :
    Calls Tryd.prog 44 #[.string a, .string b] w fun e w' => e = .returned (.bool (Nm.begins a.data.toList b.data.toList)) ∧ Below w.heap.size w w' := by
  go_enter Tryd.func44, Tryd.ntmps44
  go_wp2_with (go_at_call 37; refine (rkey_any _ _ ha).mono ?_)
  rintro e w1 ⟨hb1, v1, ho1, rfl⟩
  by_cases ca : Nm.check a.data.toList = 0
  rotate_left
  · have cab : (Nm.check a.data.toList != 0) = true := by simp [ca]
    have cae : (Nm.check a.data.toList == 0) = false := by simp [ca]
    have HF : Hid (Nm.begins a.data.toList b.data.toList = false) := Lib.hid (by unfold Nm.begins; exact decide_eq_false (fun h => ca h.1))
    clear ca
    go_wp2_with fail
    go_ret
    exact ⟨ret_bool HF.out.symm, hb1⟩
  have hkp := Nm.key_pos ca
  have HB : Hid (Nm.begins a.data.toList b.data.toList = decide (b.data.toList = [] ∨ (Nm.check b.data.toList = 0 ∧ Nm.key b.data.toList <+: Nm.key a.data.toList))) := Lib.hid (by unfold Nm.begins; simp [ca])
  rw [ca]
  clear ca
  by_cases h0 : b = ⟨#[]⟩
  · have HF : Hid (Nm.begins a.data.toList b.data.toList = true) := Lib.hid (by rw [HB.out, h0]; rfl)
    have h0b : b.toList.isEmpty = true := by rw [str_toList, h0]; rfl
    clear h0 HB
    go_wp2_with fail
    go_ret
    exact ⟨ret_bool HF.out.symm, hb1⟩
  have h0d : b.data.toList ≠ [] := fun e => h0 (by cases b with | mk d => simp at e; subst e; rfl)
  have h0b : b.toList.isEmpty = false := by rw [str_toList]; simpa using h0d
  go_wp2_with (go_at_call 37; refine (rkey_any _ _ hb).mono ?_)
  rintro e w2 ⟨hb2, v2, ho2, rfl⟩
  have hb02 : Below w.heap.size w w2 := hb1.trans (hb2.mono hb1.size)
  have ho12 := ho1.below hb2 (Nat.le_refl _)
  have hl1 := Nm.key_len a.data.toList
  have hl2 := Nm.key_len b.data.toList
  obtain ⟨n1, hn1⟩ : ∃ n, (Nm.key a.data.toList).length = n := ⟨_, rfl⟩
  obtain ⟨n2, hn2⟩ : ∃ n, (Nm.key b.data.toList).length = n := ⟨_, rfl⟩
  rw [hn1] at hl1 hkp
  rw [hn2] at hl2
  obtain ⟨A1, c1, rfl, hc1, hR1, _⟩ := ho12.form_n hn1
  obtain ⟨A2, c2, rfl, _, hR2, _⟩ := ho2.form_n hn2
  have H1 := Lib.hid hn1
  have H2 := Lib.hid hn2
  clear hn1 hn2
  by_cases cb : Nm.check b.data.toList = 0
  rotate_left
  · have cbe : (Nm.check b.data.toList == 0) = false := by simp [cb]
    have HF : Hid (Nm.begins a.data.toList b.data.toList = false) := Lib.hid (by rw [HB.out]; exact decide_eq_false (fun h => h.elim h0d (fun h => cb h.1)))
    clear cb HB
    go_wp2_with fail
    go_ret
    exact ⟨ret_bool HF.out.symm, hb02⟩
  have HB2 : Hid (Nm.begins a.data.toList b.data.toList = decide (Nm.key b.data.toList <+: Nm.key a.data.toList)) := Lib.hid (by rw [HB.out]; simp [cb]; intro e; exact absurd (by simp [e]) h0d)
  rw [cb]
  clear cb HB
  by_cases hlen : n1 < n2
  · have HF : Hid (Nm.begins a.data.toList b.data.toList = false) := Lib.hid (by rw [HB2.out]; exact decide_eq_false (fun h => by have := h.length_le; rw [H1.out, H2.out] at this; omega))
    go_wp2_with fail
    go_ret
    exact ⟨ret_bool HF.out.symm, hb02⟩
  obtain ⟨b1, o1, rfl, hbb1, hcc⟩ := hR1 0 (by rw [H1.out]; omega)
  have hpart : RI w2 (some ⟨b1, o1, none⟩) ((Nm.key a.data.toList).take n2) := by
    have := RI.part hcc hbb1 (f := 0) (e := n2) (by rw [H1.out]; omega)
    simpa using this
  have HT : Hid (((Nm.key a.data.toList).take n2).length = n2) := Lib.hid (by rw [List.length_take, H1.out]; omega)
  have HP := Lib.hid hpart
  have HE : Hid ((Nm.cmpI ((Nm.key a.data.toList).take n2) (Nm.key b.data.toList) == 0) = Nm.begins a.data.toList b.data.toList) := Lib.hid (by rw [pre_cmp H2.out, HB2.out])
  clear hpart hcc hR1
  go_wp2_with (go_at_call 68; refine (numbers_any _ _ _ _ _ _ n2 n2 _ HT.out H2.out HP.out hR2 (by omega) (by omega)).mono ?_)
  first | rintro e w3 rfl hb3 | rintro e w3 ⟨rfl, hb3⟩
  go_wp2_with fail
  go_ret
  exact ⟨ret_bool HE.out, hb02.trans (hb3.mono hb02.size)⟩
end Go.Proofs.YtlcjfphhogcenaaDoor
