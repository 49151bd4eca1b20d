/-
  Names and their order: plain functions.
-/
import Derived.Test.YtlcjfphhogcenaaDoorPlainU
import Derived.Lib.IndexMore
import Derived.Lib.Small
set_option linter.unusedVariables false
set_option linter.unusedSimpArgs false
namespace Go.Proofs.YtlcjfphhogcenaaDoor
namespace Nm
/-- Is the code point a mark? -/
def mark (r : Int) : Bool := r == 32 || r == 39 || r == 40 || r == 41 || r == 45 || r == 46
/-- Does a blank stand behind another one? p: a blank stands ahead of the list. -/
def dbl : Bool → List Int → Bool
  | _, [] => false
  | p, x :: t => (p && x == 32) || dbl (x == 32) t
/-- Does a blank stand at an end, or behind another one? -/
def blanks (L : List Int) : Bool := L.head? == some 32 || L.getLast? == some 32 || dbl false L
/-- Are all code points common ones? -/
def common (L : List Int) : Bool := L.all fun r => Gl.script r == 0
/-- The error of a string as a name; 0: it is one. -/
def check (l : List UInt8) : Int :=
  if l = [] then 14 else if 40 < l.length then 3
  else match Gl.decode l with
    | none => 4
    | some L => if blanks L || common L then 14 else 0
/-- The code points of a name. -/
def read (l : List UInt8) : List Int := if check l = 0 then (Gl.decode l).getD [] else []
/-- The key of a list of code points. -/
def keyOf (L : List Int) : List Int := (L.filter fun r => !mark r).map Gl.fold
def key (l : List UInt8) : List Int := keyOf (read l)

theorem check_range (l : List UInt8) : 0 ≤ check l ∧ check l ≤ 14 := by
  unfold check
  split
  · omega
  · split
    · omega
    · split
      · omega
      · split <;> omega

/-! blanks of the bytes are blanks of the code points -/
def dbl8 : Bool → List UInt8 → Bool
  | _, [] => false
  | p, x :: t => (p && x == 32) || dbl8 (x == 32) t
theorem dbl8_high {l : List UInt8} (h : ∀ x ∈ l, x ≠ 32) (hne : l ≠ []) (p : Bool) (t : List UInt8) : dbl8 p (l ++ t) = dbl8 false t := by
  induction l generalizing p with
  | nil => exact absurd rfl hne
  | cons x l ih =>
    have hx : (x == 32) = false := by simpa using h x (by simp)
    simp only [List.cons_append, dbl8, hx, Bool.and_false, Bool.false_or]
    cases l with
    | nil => rfl
    | cons y l => exact ih (fun z hz => h z (by simp [hz])) (by simp) _
theorem unit_blank : Gl.unit 32 = [32] := by decide
theorem ofNat_ne {k : Nat} (h : k % 256 ≠ 32) : UInt8.ofNat k ≠ 32 := by
  intro e
  have := congrArg UInt8.toNat e
  simp at this
  omega
theorem unit_other {r : Int} (h : 0 ≤ Gl.script r) (hr : r ≠ 32) : (∀ x ∈ Gl.unit r, x ≠ 32) ∧ Gl.unit r ≠ [] := by
  have hb := Gl.script_bounds h
  unfold Gl.unit
  split
  · refine ⟨fun x hx => ?_, by simp⟩
    simp only [List.mem_singleton] at hx
    subst hx
    exact ofNat_ne (by omega)
  · split
    · refine ⟨fun x hx => ?_, by simp⟩
      simp only [List.mem_cons, List.not_mem_nil, or_false] at hx
      rcases hx with rfl | rfl
      · exact ofNat_ne (by omega)
      · exact ofNat_ne (by omega)
    · refine ⟨fun x hx => ?_, by simp⟩
      simp only [List.mem_cons, List.not_mem_nil, or_false] at hx
      rcases hx with rfl | rfl | rfl
      · exact ofNat_ne (by omega)
      · exact ofNat_ne (by omega)
      · exact ofNat_ne (by omega)
theorem dbl_units : ∀ (L : List Int) (p : Bool), Gl.valid L = true → dbl8 p (Gl.units L) = dbl p L
  | [], p, _ => rfl
  | r :: L, p, h => by
    simp only [Gl.valid, List.all_cons, Bool.and_eq_true, decide_eq_true_eq] at h
    have ih := fun q => dbl_units L q h.2
    simp only [Gl.units, List.flatMap_cons] at ih ⊢
    by_cases hr : r = 32
    · subst hr
      rw [unit_blank]
      simp [dbl8, dbl, ih]
    · have hu := unit_other h.1 hr
      have hrb : (r == 32) = false := by simpa using hr
      rw [dbl8_high hu.1 hu.2, ih]
      simp [dbl, hrb]

theorem pre_iff (x : UInt8) (l : List UInt8) : [32, 32].isPrefixOf (x :: l) = (x == 32 && (l.head? == some 32)) := by
  cases l with
  | nil => simp [List.isPrefixOf]
  | cons y l =>
    simp only [List.isPrefixOf, List.head?_cons, Bool.and_true]
    rw [Bool.eq_iff_iff]
    simp
    constructor
    · rintro ⟨a, b⟩; exact ⟨a.symm, b.symm⟩
    · rintro ⟨a, b⟩; exact ⟨a.symm, b.symm⟩
theorem dbl8_true (l : List UInt8) : dbl8 true l = ((l.head? == some 32) || dbl8 false l) := by
  cases l with
  | nil => rfl
  | cons x l => simp [dbl8]
theorem index_dbl : ∀ l : List UInt8, 0 ≤ Lib.index l [32, 32] ↔ dbl8 false l = true
  | [] => by decide
  | x :: l => by
    have ih := index_dbl l
    have hge := Lib.index_ge l [32, 32]
    have e : Lib.index (x :: l) [32, 32] = if [32, 32].isPrefixOf (x :: l) then 0 else if Lib.index l [32, 32] == -1 then -1 else Lib.index l [32, 32] + 1 := rfl
    have d : dbl8 false (x :: l) = dbl8 (x == 32) l := by simp [dbl8]
    have step : 0 ≤ (if Lib.index l [32, 32] == -1 then -1 else Lib.index l [32, 32] + 1) ↔ dbl8 false l = true := by
      rw [← ih]
      by_cases h1 : Lib.index l [32, 32] = -1
      · rw [h1]; decide
      · rw [if_neg (by simpa using h1)]; omega
    rw [e, d, pre_iff]
    by_cases hx : x = 32
    · subst hx
      rw [beq_self_eq_true, Bool.true_and, dbl8_true]
      cases hh : (l.head? == some 32)
      · rw [if_neg (by decide), Bool.false_or]; exact step
      · simp
    · have hxb : (x == 32) = false := by simpa using hx
      rw [hxb, Bool.false_and, if_neg (by decide)]
      exact step
theorem contains_dbl (l : List UInt8) : Lib.contains l [32, 32] = dbl8 false l := by
  unfold Lib.contains
  rw [Bool.eq_iff_iff, decide_eq_true_eq]
  exact index_dbl l

theorem unit_head {r : Int} (h : 0 ≤ Gl.script r) (t : List UInt8) : ((Gl.unit r ++ t).head? == some 32) = (r == 32) := by
  by_cases hr : r = 32
  · subst hr; rfl
  · obtain ⟨h1, h2⟩ := unit_other h hr
    have hrb : (r == 32) = false := by simpa using hr
    rw [hrb]
    cases hu : Gl.unit r with
    | nil => exact absurd hu h2
    | cons x u =>
      rw [hu] at h1
      simpa using h1 x (by simp)
theorem unit_last {r : Int} (h : 0 ≤ Gl.script r) (t : List UInt8) : ((t ++ Gl.unit r).getLast? == some 32) = (r == 32) := by
  by_cases hr : r = 32
  · subst hr; rw [unit_blank]; simp
  · obtain ⟨h1, h2⟩ := unit_other h hr
    have hrb : (r == 32) = false := by simpa using hr
    rw [hrb, List.getLast?_append]
    cases hg : (Gl.unit r).getLast? with
    | none => exact absurd (List.getLast?_eq_none_iff.1 hg) h2
    | some x => simpa using h1 x (List.mem_of_getLast? hg)
theorem units_head {L : List Int} (h : Gl.valid L = true) : ((Gl.units L).head? == some 32) = (L.head? == some 32) := by
  cases L with
  | nil => rfl
  | cons r L =>
    simp only [Gl.valid, List.all_cons, Bool.and_eq_true, decide_eq_true_eq] at h
    simp only [Gl.units, List.flatMap_cons]
    rw [unit_head h.1]
    simp
theorem units_last {L : List Int} (h : Gl.valid L = true) : ((Gl.units L).getLast? == some 32) = (L.getLast? == some 32) := by
  rcases List.eq_nil_or_concat L with rfl | ⟨M, r, rfl⟩
  · rfl
  · rw [List.concat_eq_append] at h ⊢
    rw [Gl.valid_append] at h
    simp only [Gl.valid, List.all_cons, List.all_nil, Bool.and_eq_true, decide_eq_true_eq] at h
    rw [Gl.units_append]
    have : Gl.units [r] = Gl.unit r := by simp [Gl.units]
    rw [this, unit_last h.2.1]
    simp
/-- What the program asks of the bytes is what the document asks of the code points. -/
theorem blanks_units {L : List Int} (h : Gl.valid L = true) : blanks L = ((Gl.units L).head? == some 32 || (Gl.units L).getLast? == some 32 || Lib.contains (Gl.units L) [32, 32]) := by
  rw [contains_dbl, dbl_units L false h, units_head h, units_last h]
  rfl
end Nm
end Go.Proofs.YtlcjfphhogcenaaDoor
