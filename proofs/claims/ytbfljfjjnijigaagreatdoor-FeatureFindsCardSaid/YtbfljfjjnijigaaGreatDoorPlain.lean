/-
  The plain functions of the layers 6 and 7 (code points, names): what the Go functions compute, with no program in sight.
-/
set_option linter.unusedVariables false
set_option linter.unusedSimpArgs false
namespace Go.Proofs.YtbfljfjjnijigaaGreatDoor

/-- The k-th integer of a list. -/
def gi (xs : List Int) (k : Nat) : Int := xs.getD k 0
theorem gi_eq {xs : List Int} {k : Nat} (h : k < xs.length) : gi xs k = xs[k] := by simp [gi, h]
theorem take_gi {xs : List Int} {k : Nat} (h : k < xs.length) : xs.take (k + 1) = xs.take k ++ [gi xs k] := by
  rw [gi_eq h, List.take_succ_eq_append_getElem h]
theorem drop_gi {xs : List Int} {k : Nat} (h : k < xs.length) : xs.drop k = gi xs k :: xs.drop (k + 1) := by
  rw [gi_eq h, List.drop_eq_getElem_cons h]
theorem gi_take {xs : List Int} {j k : Nat} (h : j < k) : gi (xs.take k) j = gi xs j := by
  simp [gi, List.getElem?_take, h]
theorem gi_drop (xs : List Int) (j k : Nat) : gi (xs.drop k) j = gi xs (k + j) := by
  simp [gi, List.getElem?_drop]
theorem gi_append_left {xs ys : List Int} {k : Nat} (h : k < xs.length) : gi (xs ++ ys) k = gi xs k := by
  simp [gi, List.getElem?_append_left h]
theorem gi_append_right {xs ys : List Int} {k : Nat} (h : xs.length ≤ k) : gi (xs ++ ys) k = gi ys (k - xs.length) := by
  simp [gi, List.getElem?_append_right h]

namespace Gl
/-- Is the code point a digit? -/
def digit (r : Int) : Bool := decide (48 ≤ r ∧ r ≤ 57)
/-- The script of a code point, -1 if it has none. -/
def script (r : Int) : Int :=
  if r = 32 ∨ (39 ≤ r ∧ r ≤ 41) ∨ (45 ≤ r ∧ r ≤ 46) ∨ (48 ≤ r ∧ r ≤ 57) then 0
  else if (65 ≤ r ∧ r ≤ 90) ∨ (97 ≤ r ∧ r ≤ 122) ∨ (192 ≤ r ∧ r ≤ 591 ∧ r ≠ 215 ∧ r ≠ 247) then 1
  else if 880 ≤ r ∧ r ≤ 1023 then 2
  else if 1024 ≤ r ∧ r ≤ 1279 then 3
  else if 1488 ≤ r ∧ r ≤ 1514 then 4
  else if 19968 ≤ r ∧ r ≤ 40959 then 5
  else -1
/-- The width of a code point in letters of a height. -/
def width (r letters : Int) : Int :=
  if letters < 1 ∨ 64 < letters ∨ script r < 0 then 0
  else if script r = 5 then letters
  else if script r = 0 ∧ digit r = false then (letters + 1) / 2
  else (2 * letters + 2) / 3
/-- The lower-case form of a code point. -/
def fold (r : Int) : Int :=
  if (65 ≤ r ∧ r ≤ 90) ∨ (192 ≤ r ∧ r ≤ 222 ∧ r ≠ 215) ∨ (913 ≤ r ∧ r ≤ 937) ∨ (1040 ≤ r ∧ r ≤ 1071) then r + 32
  else if 1024 ≤ r ∧ r ≤ 1039 then r + 80
  else if r % 2 = 0 ∧ ((256 ≤ r ∧ r ≤ 310) ∨ (330 ≤ r ∧ r ≤ 374)) then r + 1
  else if r % 2 = 1 ∧ ((313 ≤ r ∧ r ≤ 327) ∨ (377 ≤ r ∧ r ≤ 381)) then r + 1
  else if r = 376 then 255 else r

theorem script_range (r : Int) : -1 ≤ script r ∧ script r ≤ 5 := by unfold script; omega
theorem script_bounds {r : Int} (h : 0 ≤ script r) : 32 ≤ r ∧ r ≤ 40959 := by unfold script at h; omega
theorem s1 {r : Int} (h : (65 ≤ r ∧ r ≤ 90) ∨ (97 ≤ r ∧ r ≤ 122) ∨ (192 ≤ r ∧ r ≤ 591 ∧ r ≠ 215 ∧ r ≠ 247)) : script r = 1 := by unfold script; omega
theorem s2 {r : Int} (h : 880 ≤ r ∧ r ≤ 1023) : script r = 2 := by unfold script; omega
theorem s3 {r : Int} (h : 1024 ≤ r ∧ r ≤ 1279) : script r = 3 := by unfold script; omega
theorem script_fold (r : Int) : script (fold r) = script r := by
  unfold fold
  repeat' split
  · rename_i h
    rcases h with h | h | h | h
    · rw [s1 (by omega), s1 (by omega)]
    · rw [s1 (by omega), s1 (by omega)]
    · rw [s2 (by omega), s2 (by omega)]
    · rw [s3 (by omega), s3 (by omega)]
  · rw [s3 (by omega), s3 (by omega)]
  · rw [s1 (by omega), s1 (by omega)]
  · rw [s1 (by omega), s1 (by omega)]
  · rw [s1 (by omega), s1 (by omega)]
  · rfl
theorem fold_self {r : Int} (h1 : ¬ ((65 ≤ r ∧ r ≤ 90) ∨ (192 ≤ r ∧ r ≤ 222 ∧ r ≠ 215) ∨ (913 ≤ r ∧ r ≤ 937) ∨ (1040 ≤ r ∧ r ≤ 1071))) (h2 : ¬ (1024 ≤ r ∧ r ≤ 1039)) (h3 : ¬ (r % 2 = 0 ∧ ((256 ≤ r ∧ r ≤ 310) ∨ (330 ≤ r ∧ r ≤ 374))))
    (h4 : ¬ (r % 2 = 1 ∧ ((313 ≤ r ∧ r ≤ 327) ∨ (377 ≤ r ∧ r ≤ 381)))) (h5 : r ≠ 376) : fold r = r := by
  unfold fold; rw [if_neg h1, if_neg h2, if_neg h3, if_neg h4, if_neg h5]
theorem fold_fold (r : Int) : fold (fold r) = fold r := by
  apply fold_self
  all_goals (unfold fold; repeat' split)
  all_goals omega

/-- The table of the program: first, last, script. -/
def los : List Int := [32, 39, 45, 48, 65, 97, 192, 216, 248, 880, 1024, 1488, 19968]
def his : List Int := [32, 41, 46, 57, 90, 122, 214, 246, 591, 1023, 1279, 1514, 40959]
def scs : List Int := [0, 0, 0, 0, 1, 1, 1, 1, 1, 2, 3, 4, 5]
def lo (k : Nat) : Int := los.getD k 0
def hi (k : Nat) : Int := his.getD k 0
def sc (k : Nat) : Int := scs.getD k 0
theorem scan_hit (r : Int) (k : Nat) (hk : k < 13) (h1 : lo k ≤ r) (h2 : r ≤ hi k) : sc k = script r := by
  obtain rfl | rfl | rfl | rfl | rfl | rfl | rfl | rfl | rfl | rfl | rfl | rfl | rfl : k = 0 ∨ k = 1 ∨ k = 2 ∨ k = 3 ∨ k = 4 ∨ k = 5 ∨ k = 6 ∨ k = 7 ∨ k = 8 ∨ k = 9 ∨ k = 10 ∨ k = 11 ∨ k = 12 := by omega
  all_goals (simp [lo, hi, sc, los, his, scs] at h1 h2 ⊢; unfold script; omega)
theorem scan_miss (r : Int) (h : ∀ j, j < 13 → ¬ (lo j ≤ r ∧ r ≤ hi j)) : -1 = script r := by
  have a0 := h 0 (by omega); have a1 := h 1 (by omega); have a2 := h 2 (by omega); have a3 := h 3 (by omega); have a4 := h 4 (by omega); have a5 := h 5 (by omega); have a6 := h 6 (by omega)
  have a7 := h 7 (by omega); have a8 := h 8 (by omega); have a9 := h 9 (by omega); have a10 := h 10 (by omega); have a11 := h 11 (by omega); have a12 := h 12 (by omega)
  clear h
  simp only [lo, hi, los, his, List.getD_cons_zero, List.getD_cons_succ] at *
  unfold script; omega
end Gl
theorem no_snoc {P : Nat → Prop} {k : Nat} (h : ∀ j, j < k → ¬ P j) (hk : ¬ P k) : ∀ j, j < k + 1 → ¬ P j := fun j hj => by
  rcases Nat.lt_or_eq_of_le (Nat.le_of_lt_succ hj) with h' | rfl
  · exact h j h'
  · exact hk
end Go.Proofs.YtbfljfjjnijigaaGreatDoor
