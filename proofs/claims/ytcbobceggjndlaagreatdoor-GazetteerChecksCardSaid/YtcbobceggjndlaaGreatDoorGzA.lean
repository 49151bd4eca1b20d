/-
  Entries of the gazetteer: the form of a square.
-/
import Derived.Test.YtcbobceggjndlaaGreatDoorCaB
set_option linter.unusedVariables false
set_option linter.unusedSimpArgs false
namespace Go.Proofs.YtcbobceggjndlaaGreatDoor
open Go.RowKit

def Gz.b (l : List UInt8) (i : Nat) : Int := ((l.getD i 0).toNat : Int)
/-- The form of a square, as a proposition. -/
def Gz.Form (l : List UInt8) : Prop :=
  (l.length = 5 ∨ l.length = 6) ∧ 65 ≤ Gz.b l 0 ∧ Gz.b l 0 ≤ 80 ∧ 49 ≤ Gz.b l 1 ∧ Gz.b l 1 ≤ 57 ∧ (l.length = 6 → 48 ≤ Gz.b l 2 ∧ Gz.b l 2 ≤ 57) ∧
  Gz.b l (l.length - 3) = 45 ∧ 97 ≤ Gz.b l (l.length - 2) ∧ Gz.b l (l.length - 2) ≤ 104 ∧ 49 ≤ Gz.b l (l.length - 1) ∧ Gz.b l (l.length - 1) ≤ 56
instance (l : List UInt8) : Decidable (Gz.Form l) := by unfold Gz.Form; infer_instance
theorem r52digit_any (c lo hi : Int) (w : World) :
    Calls Tryz.prog 38 #[.int .u8 c, .int .u8 lo, .int .u8 hi] w fun e w' => e = .returned (.bool (decide (lo ≤ c ∧ c ≤ hi))) ∧ w = w' := by
  go_enter Tryz.func38, Tryz.ntmps38
  go_wp2_with fail
  all_goals
    go_ret
    refine ⟨ret_bool ?_, rfl⟩
    simp
    try omega
set_option maxHeartbeats 4000000 in
theorem gsquare5 (c0 c1 c2 c3 c4 : UInt8) (w : World) :
    Calls Tryz.prog 14 #[.string ⟨#[c0, c1, c2, c3, c4]⟩] w fun e w' => e = .returned (.bool (decide (Gz.Form [c0, c1, c2, c3, c4]))) ∧ w = w' := by
  have e0 : ∀ h, getElem (⟨#[c0, c1, c2, c3, c4]⟩ : ByteArray) 0 h = c0 := fun _ => rfl
  have e1 : ∀ h, getElem (⟨#[c0, c1, c2, c3, c4]⟩ : ByteArray) 1 h = c1 := fun _ => rfl
  have e2 : ∀ h, getElem (⟨#[c0, c1, c2, c3, c4]⟩ : ByteArray) 2 h = c2 := fun _ => rfl
  have e3 : ∀ h, getElem (⟨#[c0, c1, c2, c3, c4]⟩ : ByteArray) 3 h = c3 := fun _ => rfl
  have e4 : ∀ h, getElem (⟨#[c0, c1, c2, c3, c4]⟩ : ByteArray) 4 h = c4 := fun _ => rfl
  have HE := Lib.hid (And.intro e0 (And.intro e1 (And.intro e2 (And.intro e3 e4))))
  clear e0 e1 e2 e3 e4
  go_enter Tryz.func14, Tryz.ntmps14
  go_wp2_with fail
  all_goals
    go_ret
    refine ⟨ret_bool (Bool.eq_iff_iff.2 ?_), rfl⟩
    have HX := HE.out
    simp only [HX] at *
    clear HX HE
    try simp only [Bool.not_eq_eq_eq_not, Bool.not_true, Bool.not_false, decide_eq_false_iff_not, decide_eq_true_eq] at *
    unfold Gz.Form Gz.b
    simp
    try omega
set_option maxHeartbeats 4000000 in
theorem gsquare6 (c0 c1 c2 c3 c4 c5 : UInt8) (w : World) :
    Calls Tryz.prog 14 #[.string ⟨#[c0, c1, c2, c3, c4, c5]⟩] w fun e w' => e = .returned (.bool (decide (Gz.Form [c0, c1, c2, c3, c4, c5]))) ∧ w = w' := by
  have e0 : ∀ h, getElem (⟨#[c0, c1, c2, c3, c4, c5]⟩ : ByteArray) 0 h = c0 := fun _ => rfl
  have e1 : ∀ h, getElem (⟨#[c0, c1, c2, c3, c4, c5]⟩ : ByteArray) 1 h = c1 := fun _ => rfl
  have e2 : ∀ h, getElem (⟨#[c0, c1, c2, c3, c4, c5]⟩ : ByteArray) 2 h = c2 := fun _ => rfl
  have e3 : ∀ h, getElem (⟨#[c0, c1, c2, c3, c4, c5]⟩ : ByteArray) 3 h = c3 := fun _ => rfl
  have e4 : ∀ h, getElem (⟨#[c0, c1, c2, c3, c4, c5]⟩ : ByteArray) 4 h = c4 := fun _ => rfl
  have e5 : ∀ h, getElem (⟨#[c0, c1, c2, c3, c4, c5]⟩ : ByteArray) 5 h = c5 := fun _ => rfl
  have HE := Lib.hid (And.intro e0 (And.intro e1 (And.intro e2 (And.intro e3 (And.intro e4 e5)))))
  clear e0 e1 e2 e3 e4 e5
  go_enter Tryz.func14, Tryz.ntmps14
  go_wp2_with fail
  all_goals
    go_ret
    refine ⟨ret_bool (Bool.eq_iff_iff.2 ?_), rfl⟩
    have HX := HE.out
    simp only [HX] at *
    clear HX HE
    try simp only [Bool.not_eq_eq_eq_not, Bool.not_true, Bool.not_false, decide_eq_false_iff_not, decide_eq_true_eq] at *
    unfold Gz.Form Gz.b
    simp
    try omega
set_option maxHeartbeats 4000000 in
theorem rform5 (c0 c1 c2 c3 c4 : UInt8) (w : World) :
    Calls Tryz.prog 17 #[.string ⟨#[c0, c1, c2, c3, c4]⟩] w fun e w' => e = .returned (.bool (decide (Gz.Form [c0, c1, c2, c3, c4]))) ∧ w = w' := by
  have e0 : ∀ h, getElem (⟨#[c0, c1, c2, c3, c4]⟩ : ByteArray) 0 h = c0 := fun _ => rfl
  have e1 : ∀ h, getElem (⟨#[c0, c1, c2, c3, c4]⟩ : ByteArray) 1 h = c1 := fun _ => rfl
  have e2 : ∀ h, getElem (⟨#[c0, c1, c2, c3, c4]⟩ : ByteArray) 2 h = c2 := fun _ => rfl
  have e3 : ∀ h, getElem (⟨#[c0, c1, c2, c3, c4]⟩ : ByteArray) 3 h = c3 := fun _ => rfl
  have e4 : ∀ h, getElem (⟨#[c0, c1, c2, c3, c4]⟩ : ByteArray) 4 h = c4 := fun _ => rfl
  have HE := Lib.hid (And.intro e0 (And.intro e1 (And.intro e2 (And.intro e3 e4))))
  clear e0 e1 e2 e3 e4
  go_enter Tryz.func17, Tryz.ntmps17
  go_wp2_with (go_at_call 38; refine (r52digit_any _ _ _ _).mono ?_; first | rintro e w1 rfl rfl | rintro e w1 ⟨rfl, rfl⟩)
  all_goals
    go_ret
    refine ⟨ret_bool (Bool.eq_iff_iff.2 ?_), rfl⟩
    have HX := HE.out
    simp only [HX] at *
    clear HX HE
    try simp only [Bool.not_eq_eq_eq_not, Bool.not_true, Bool.not_false, decide_eq_false_iff_not, decide_eq_true_eq] at *
    unfold Gz.Form Gz.b
    simp
    try omega
set_option maxHeartbeats 4000000 in
theorem rform6 (c0 c1 c2 c3 c4 c5 : UInt8) (w : World) :
    Calls Tryz.prog 17 #[.string ⟨#[c0, c1, c2, c3, c4, c5]⟩] w fun e w' => e = .returned (.bool (decide (Gz.Form [c0, c1, c2, c3, c4, c5]))) ∧ w = w' := by
  have e0 : ∀ h, getElem (⟨#[c0, c1, c2, c3, c4, c5]⟩ : ByteArray) 0 h = c0 := fun _ => rfl
  have e1 : ∀ h, getElem (⟨#[c0, c1, c2, c3, c4, c5]⟩ : ByteArray) 1 h = c1 := fun _ => rfl
  have e2 : ∀ h, getElem (⟨#[c0, c1, c2, c3, c4, c5]⟩ : ByteArray) 2 h = c2 := fun _ => rfl
  have e3 : ∀ h, getElem (⟨#[c0, c1, c2, c3, c4, c5]⟩ : ByteArray) 3 h = c3 := fun _ => rfl
  have e4 : ∀ h, getElem (⟨#[c0, c1, c2, c3, c4, c5]⟩ : ByteArray) 4 h = c4 := fun _ => rfl
  have e5 : ∀ h, getElem (⟨#[c0, c1, c2, c3, c4, c5]⟩ : ByteArray) 5 h = c5 := fun _ => rfl
  have HE := Lib.hid (And.intro e0 (And.intro e1 (And.intro e2 (And.intro e3 (And.intro e4 e5)))))
  clear e0 e1 e2 e3 e4 e5
  go_enter Tryz.func17, Tryz.ntmps17
  go_wp2_with (go_at_call 38; refine (r52digit_any _ _ _ _).mono ?_; first | rintro e w1 rfl rfl | rintro e w1 ⟨rfl, rfl⟩)
  all_goals
    go_ret
    refine ⟨ret_bool (Bool.eq_iff_iff.2 ?_), rfl⟩
    have HX := HE.out
    simp only [HX] at *
    clear HX HE
    try simp only [Bool.not_eq_eq_eq_not, Bool.not_true, Bool.not_false, decide_eq_false_iff_not, decide_eq_true_eq] at *
    unfold Gz.Form Gz.b
    simp
    try omega
set_option maxHeartbeats 4000000 in
theorem gsquare_any (s : ByteArray) (w : World) (hs : s.size ≤ 1000000000000) :
    Calls Tryz.prog 14 #[.string s] w fun e w' => e = .returned (.bool (decide (Gz.Form s.data.toList))) ∧ w = w' := by
  by_cases h5 : s.size = 5
  · obtain ⟨⟨l⟩⟩ := s
    match l, h5 with
    | [c0, c1, c2, c3, c4], _ => exact gsquare5 c0 c1 c2 c3 c4 w
  by_cases h6 : s.size = 6
  · obtain ⟨⟨l⟩⟩ := s
    match l, h6 with
    | [c0, c1, c2, c3, c4, c5], _ => exact gsquare6 c0 c1 c2 c3 c4 c5 w
  have hF : decide (Gz.Form s.data.toList) = false := decide_eq_false (fun h => by
    have h1 := h.1
    have e : s.data.toList.length = s.size := Array.length_toList
    omega)
  have HN := Lib.hid hF
  clear hF
  have x0 : ((s.size : Int) != 5) = true := bne_iff_ne.2 (by omega)
  have x1 : ((s.size : Int) != 6) = true := bne_iff_ne.2 (by omega)
  rcases Nat.lt_or_ge s.size 5 with hl | hl
  · have y1 : (s.size : Int) - 3 < 2 := by omega
    go_enter Tryz.func14, Tryz.ntmps14
    go_wp2_with fail
    go_ret
    exact ⟨ret_bool HN.out.symm, rfl⟩
  · have y1 : ¬ ((s.size : Int) - 3 < 2) := by omega
    have y2 : 3 < (s.size : Int) - 3 := by omega
    go_enter Tryz.func14, Tryz.ntmps14
    go_wp2_with fail
    go_ret
    exact ⟨ret_bool HN.out.symm, rfl⟩
set_option maxHeartbeats 4000000 in
theorem rform_any (s : ByteArray) (w : World) (hs : s.size ≤ 1000000000000) :
    Calls Tryz.prog 17 #[.string s] w fun e w' => e = .returned (.bool (decide (Gz.Form s.data.toList))) ∧ w = w' := by
  by_cases h5 : s.size = 5
  · obtain ⟨⟨l⟩⟩ := s
    match l, h5 with
    | [c0, c1, c2, c3, c4], _ => exact rform5 c0 c1 c2 c3 c4 w
  by_cases h6 : s.size = 6
  · obtain ⟨⟨l⟩⟩ := s
    match l, h6 with
    | [c0, c1, c2, c3, c4, c5], _ => exact rform6 c0 c1 c2 c3 c4 c5 w
  have hF : decide (Gz.Form s.data.toList) = false := decide_eq_false (fun h => by
    have h1 := h.1
    have e : s.data.toList.length = s.size := Array.length_toList
    omega)
  have HN := Lib.hid hF
  clear hF
  have x0 : ((s.size : Int) != 5) = true := bne_iff_ne.2 (by omega)
  have x1 : ((s.size : Int) != 6) = true := bne_iff_ne.2 (by omega)
  rcases Nat.lt_or_ge s.size 5 with hl | hl
  · have y1 : (s.size : Int) - 3 < 2 := by omega
    go_enter Tryz.func17, Tryz.ntmps17
    go_wp2_with fail
    go_ret
    exact ⟨ret_bool HN.out.symm, rfl⟩
  · have y1 : ¬ ((s.size : Int) - 3 < 2) := by omega
    have y2 : 3 < (s.size : Int) - 3 := by omega
    go_enter Tryz.func17, Tryz.ntmps17
    go_wp2_with fail
    go_ret
    exact ⟨ret_bool HN.out.symm, rfl⟩
end Go.Proofs.YtcbobceggjndlaaGreatDoor
