/-
  Walks of layer 6: Width, strong, Same, base.
-/
import Derived.Test.YtlcjfphhogcenaaDoorGlyphA
set_option linter.unusedVariables false
set_option linter.unusedSimpArgs false
namespace Go.Proofs.YtlcjfphhogcenaaDoor
open Go.RowKit

theorem Gl.width_out {r l : Int} (h : l < 1 ∨ 64 < l ∨ Gl.script r < 0) : Gl.width r l = 0 := by unfold Gl.width; rw [if_pos h]

set_option maxHeartbeats 1000000 in
theorem gwidth_any (r l : Int) (w : World) (ht : Gl.Tab w) :
    Calls Tryd.prog 27 #[.int .i64 r, .int .i64 l] w fun e w' => e = .returned (.int .i64 (Gl.width r l)) ∧ Below w.heap.size w w' := by
  by_cases h0 : l < 1
  · go_enter Tryd.func27, Tryd.ntmps27
    go_wp2_with fail
    go_ret
    exact ⟨ret_int (Gl.width_out (by omega)).symm, Below.refl _ _⟩
  by_cases h1 : 64 < l
  · go_enter Tryd.func27, Tryd.ntmps27
    go_wp2_with fail
    go_ret
    exact ⟨ret_int (Gl.width_out (by omega)).symm, Below.refl _ _⟩
  by_cases h2 : Gl.script r < 0
  · go_enter Tryd.func27, Tryd.ntmps27
    go_wp2_with (go_at_call 25; refine (gscript_any r _ ht).mono ?_; rintro e w' ⟨rfl, hb⟩)
    go_ret
    exact ⟨ret_int (Gl.width_out (by omega)).symm, hb⟩
  have hs := Gl.script_range r
  have h2' : 0 ≤ Gl.script r := by omega
  by_cases h5 : Gl.script r = 5
  · have b5 : (Gl.script r == 5) = true := by simp [h5]
    have hw : Gl.width r l = l := by unfold Gl.width; rw [if_neg (by omega), if_pos h5]
    have HW := Lib.hid hw
    clear hw h5
    go_enter Tryd.func27, Tryd.ntmps27
    go_wp2_with (go_at_call 25; refine (gscript_any r _ ht).mono ?_; rintro e w' ⟨rfl, hb⟩)
    go_ret
    exact ⟨ret_int HW.out.symm, hb⟩
  have b5 : (Gl.script r == 5) = false := by simp [h5]
  by_cases h6 : Gl.script r = 0
  · have b6 : (Gl.script r == 0) = true := by simp [h6]
    cases hd : Gl.digit r
    · have hw : Gl.width r l = (l + 1) / 2 := by unfold Gl.width; rw [if_neg (by omega), if_neg h5, if_pos ⟨h6, hd⟩]
      have HW := Lib.hid hw
      clear hw h5 h6
      go_enter Tryd.func27, Tryd.ntmps27
      go_wp2_with (first | (go_at_call 25; refine (gscript_any r _ ht).mono ?_; rintro e w' ⟨rfl, hb⟩) | (go_at_call 52; refine (gdigit_any r _).mono ?_; rintro e w' ⟨rfl, rfl⟩))
      go_ret
      exact ⟨ret_int HW.out.symm, hb⟩
    · have hw : Gl.width r l = (2 * l + 2) / 3 := by unfold Gl.width; rw [if_neg (by omega), if_neg h5, if_neg (by simp [hd])]
      have HW := Lib.hid hw
      clear hw h5 h6
      go_enter Tryd.func27, Tryd.ntmps27
      go_wp2_with (first | (go_at_call 25; refine (gscript_any r _ ht).mono ?_; rintro e w' ⟨rfl, hb⟩) | (go_at_call 52; refine (gdigit_any r _).mono ?_; rintro e w' ⟨rfl, rfl⟩))
      go_ret
      exact ⟨ret_int HW.out.symm, hb⟩
  · have b6 : (Gl.script r == 0) = false := by simp [h6]
    have hw : Gl.width r l = (2 * l + 2) / 3 := by unfold Gl.width; rw [if_neg (by omega), if_neg h5, if_neg (by simp [h6])]
    have HW := Lib.hid hw
    clear hw h5 h6
    go_enter Tryd.func27, Tryd.ntmps27
    go_wp2_with (first | (go_at_call 25; refine (gscript_any r _ ht).mono ?_; rintro e w' ⟨rfl, hb⟩) | (go_at_call 52; refine (gdigit_any r _).mono ?_; rintro e w' ⟨rfl, rfl⟩))
    go_ret
    exact ⟨ret_int HW.out.symm, hb⟩

set_option maxHeartbeats 1000000 in
theorem rwidth_any (r l : Int) (w : World) :
    Calls Tryd.prog 28 #[.int .i64 r, .int .i64 l] w fun e w' => e = .returned (.int .i64 (Gl.width r l)) ∧ w = w' := by
  by_cases h0 : l < 1
  · go_enter Tryd.func28, Tryd.ntmps28
    go_wp2_with fail
    go_ret
    exact ⟨ret_int (Gl.width_out (by omega)).symm, rfl⟩
  by_cases h1 : 64 < l
  · go_enter Tryd.func28, Tryd.ntmps28
    go_wp2_with fail
    go_ret
    exact ⟨ret_int (Gl.width_out (by omega)).symm, rfl⟩
  by_cases h2 : Gl.script r < 0
  · go_enter Tryd.func28, Tryd.ntmps28
    go_wp2_with (go_at_call 26; refine (rscript_any r _).mono ?_; rintro e w' ⟨rfl, rfl⟩)
    go_ret
    exact ⟨ret_int (Gl.width_out (by omega)).symm, rfl⟩
  have hs := Gl.script_range r
  have h2' : 0 ≤ Gl.script r := by omega
  by_cases h5 : Gl.script r = 5
  · have b5 : (Gl.script r == 5) = true := by simp [h5]
    have hw : Gl.width r l = l := by unfold Gl.width; rw [if_neg (by omega), if_pos h5]
    have HW := Lib.hid hw
    clear hw h5
    go_enter Tryd.func28, Tryd.ntmps28
    go_wp2_with (go_at_call 26; refine (rscript_any r _).mono ?_; rintro e w' ⟨rfl, rfl⟩)
    go_ret
    exact ⟨ret_int HW.out.symm, rfl⟩
  have b5 : (Gl.script r == 5) = false := by simp [h5]
  by_cases h6 : Gl.script r = 0
  · have b6 : (Gl.script r == 0) = true := by simp [h6]
    cases hd : Gl.digit r
    · have hw : Gl.width r l = (l + 1) / 2 := by unfold Gl.width; rw [if_neg (by omega), if_neg h5, if_pos ⟨h6, hd⟩]
      have HW := Lib.hid hw
      clear hw h5 h6
      go_enter Tryd.func28, Tryd.ntmps28
      go_wp2_with (first | (go_at_call 26; refine (rscript_any r _).mono ?_; rintro e w' ⟨rfl, rfl⟩) | (go_at_call 51; refine (rdigit_any r _).mono ?_; rintro e w' ⟨rfl, rfl⟩))
      go_ret
      exact ⟨ret_int HW.out.symm, rfl⟩
    · have hw : Gl.width r l = (2 * l + 2) / 3 := by unfold Gl.width; rw [if_neg (by omega), if_neg h5, if_neg (by simp [hd])]
      have HW := Lib.hid hw
      clear hw h5 h6
      go_enter Tryd.func28, Tryd.ntmps28
      go_wp2_with (first | (go_at_call 26; refine (rscript_any r _).mono ?_; rintro e w' ⟨rfl, rfl⟩) | (go_at_call 51; refine (rdigit_any r _).mono ?_; rintro e w' ⟨rfl, rfl⟩))
      go_ret
      exact ⟨ret_int HW.out.symm, rfl⟩
  · have b6 : (Gl.script r == 0) = false := by simp [h6]
    have hw : Gl.width r l = (2 * l + 2) / 3 := by unfold Gl.width; rw [if_neg (by omega), if_neg h5, if_neg (by simp [h6])]
    have HW := Lib.hid hw
    clear hw h5 h6
    go_enter Tryd.func28, Tryd.ntmps28
    go_wp2_with (first | (go_at_call 26; refine (rscript_any r _).mono ?_; rintro e w' ⟨rfl, rfl⟩) | (go_at_call 51; refine (rdigit_any r _).mono ?_; rintro e w' ⟨rfl, rfl⟩))
    go_ret
    exact ⟨ret_int HW.out.symm, rfl⟩

set_option maxHeartbeats 1000000 in
theorem rsame_any (w : World) (A B : Option Addr) (ca cb : Nat) (xs ys : List Int) (hA : RI w A xs) (hB : RI w B ys) (hx : xs.length ≤ 1000000000000000) :
    Calls Tryd.prog 21 #[.slice A xs.length ca, .slice B ys.length cb] w fun e w' => e = .returned (.bool (decide (xs = ys))) ∧ Below w.heap.size w w' := by
  by_cases hl : xs.length = ys.length
  · have HL := Lib.hid hl
    have hl1 : (((xs.length : Int) != (ys.length : Int)) = false) := by simp [hl]
    clear hl
    go_enter Tryd.func21, Tryd.ntmps21
    go_wp2
    go_loopw [5] (fun i wr => ∃ k : Nat, k ≤ xs.length ∧ i = .int .i64 k ∧ Hid (xs.take k = ys.take k) ∧ Below w.heap.size w wr) (fun i _ => xs.length - (intOf i).toNat)
    case atStart => exact ⟨0, by omega, rfl, by simp [Hid], Below.refl _ _⟩
    case round =>
      obtain ⟨k, hk, rfl, hn, hb⟩ := hrel
      by_cases hlt : k < xs.length
      · obtain ⟨b1, o1, rfl, hb1, hc1⟩ := hA k hlt
        obtain ⟨b2, o2, rfl, hb2, hc2⟩ := hB k (by have := HL.out; omega)
        have c1 := (hb.cell (p := ⟨b1, o1 + k, none⟩) hb1).trans (hc1 k hlt)
        have c2 := (hb.cell (p := ⟨b2, o2 + k, none⟩) hb2).trans (hc2 k (by have := HL.out; omega))
        have hlt2 : k < ys.length := by have := HL.out; omega
        clear hc1 hc2 hA hB
        by_cases he : gi xs k = gi ys k
        · have he1 : (gi xs k != gi ys k) = false := by simp [he]
          have HE := Lib.hid he
          clear he
          go_wp2
          go_quiet (fail)
          go_wp2
          go_roundw
          case rel => exact ⟨k + 1, by omega, by go_num, by show _ = _; rw [take_gi hlt, take_gi hlt2, hn.out, HE.out], below_drewN hb _⟩
          case measure => simp [intOf]; omega
        · have he1 : (gi xs k != gi ys k) = true := by simp [he]
          go_wp2
          go_quiet (fail)
          go_wp2
          go_ret
          exact ⟨ret_bool (by simp; intro h; exact he (by rw [h])), below_drewN hb _⟩
      · go_wp2
        go_ret
        exact ⟨ret_bool (by have h1 := hn.out; have h2 := HL.out; rw [List.take_of_length_le (by omega), List.take_of_length_le (by omega)] at h1; simp [h1]), hb⟩
  · have hl1 : (((xs.length : Int) != (ys.length : Int)) = true) := by simp; omega
    go_enter Tryd.func21, Tryd.ntmps21
    go_wp2
    go_ret
    exact ⟨ret_bool (by simp; intro h; exact hl (by rw [h])), Below.refl _ _⟩

/-- The direction of a code point: 1, -1 or 0. -/
def Gl.strong (r : Int) : Int := if Gl.script r = 0 then 0 else if Gl.script r = 4 then -1 else 1
theorem rstrong_any (r : Int) (w : World) :
    Calls Tryd.prog 79 #[.int .i64 r] w fun e w' => e = .returned (.int .i64 (Gl.strong r)) ∧ w = w' := by
  by_cases h0 : Gl.script r = 0
  · have b0 : (Gl.script r == 0) = true := by simp [h0]
    have HW := Lib.hid (show Gl.strong r = 0 by unfold Gl.strong; rw [if_pos h0])
    clear h0
    go_enter Tryd.func79, Tryd.ntmps79
    go_wp2_with (go_at_call 26; refine (rscript_any r _).mono ?_; rintro e w' ⟨rfl, rfl⟩)
    go_ret
    exact ⟨ret_int HW.out.symm, rfl⟩
  have b0 : (Gl.script r == 0) = false := by simp [h0]
  by_cases h4 : Gl.script r = 4
  · have b4 : (Gl.script r == 4) = true := by simp [h4]
    have HW := Lib.hid (show Gl.strong r = -1 by unfold Gl.strong; rw [if_neg h0, if_pos h4])
    clear h0 h4
    go_enter Tryd.func79, Tryd.ntmps79
    go_wp2_with (go_at_call 26; refine (rscript_any r _).mono ?_; rintro e w' ⟨rfl, rfl⟩)
    go_ret
    exact ⟨ret_int HW.out.symm, rfl⟩
  have b4 : (Gl.script r == 4) = false := by simp [h4]
  have HW := Lib.hid (show Gl.strong r = 1 by unfold Gl.strong; rw [if_neg h0, if_neg h4])
  clear h0 h4
  go_enter Tryd.func79, Tryd.ntmps79
  go_wp2_with (go_at_call 26; refine (rscript_any r _).mono ?_; rintro e w' ⟨rfl, rfl⟩)
  go_ret
  exact ⟨ret_int HW.out.symm, rfl⟩
end Go.Proofs.YtlcjfphhogcenaaDoor
