/-
  The directions of code points, as the program computes them: two passes over a list of flags.
-/
import Derived.Test.YtlcjfphhogcenaaDoorPlainO
set_option linter.unusedVariables false
set_option linter.unusedSimpArgs false
namespace Go.Proofs.YtlcjfphhogcenaaDoor
namespace Gl
/-- The flags behind the first pass. -/
def befores (xs : List Int) (k : Nat) : List Bool := (List.range k).map fun i => scan (base xs) (xs.take (i + 1))
/-- The flags of all code points. -/
def lefts (xs : List Int) : List Bool := (List.range xs.length).map (left xs)
/-- A step of the second pass. -/
def dstep (xs : List Int) (s : List Bool × Bool) (i : Nat) : List Bool × Bool :=
  let a := if st (gi xs i) then hb (gi xs i) else s.2
  (if s.1.getD i false = a then s.1 else s.1.set i (base xs), a)

theorem scan_take (b : Bool) {xs : List Int} {k : Nat} (h : k < xs.length) : scan b (xs.take (k + 1)) = if st (gi xs k) then hb (gi xs k) else scan b (xs.take k) := by
  rw [take_gi h, scan_append, scan_one]
theorem scan_back (b : Bool) {xs : List Int} {k : Nat} (h : k < xs.length) : scan b (xs.drop k).reverse = if st (gi xs k) then hb (gi xs k) else scan b (xs.drop (k + 1)).reverse := by
  rw [drop_gi h, List.reverse_cons, scan_append, scan_one]
theorem befores_length (xs : List Int) (k : Nat) : (befores xs k).length = k := by simp [befores]
theorem lefts_length (xs : List Int) : (lefts xs).length = xs.length := by simp [lefts]
theorem befores_get {xs : List Int} {k i : Nat} (h : i < k) : (befores xs k)[i]? = some (scan (base xs) (xs.take (i + 1))) := by simp [befores, h]

/-- What has been done when the second pass stands at m: the flags from m on are final. -/
def mid (xs : List Int) (m : Nat) : List Bool := (List.range xs.length).map fun i => if m ≤ i then left xs i else scan (base xs) (xs.take (i + 1))
theorem mid_get {xs : List Int} {m i : Nat} (h : i < xs.length) : (mid xs m)[i]? = some (if m ≤ i then left xs i else scan (base xs) (xs.take (i + 1))) := by simp [mid, h]
theorem mid_length (xs : List Int) (m : Nat) : (mid xs m).length = xs.length := by simp [mid]
theorem mid_end (xs : List Int) : mid xs xs.length = befores xs xs.length := by
  unfold mid befores
  apply List.map_congr_left
  intro i hi
  rw [List.mem_range] at hi
  rw [if_neg (by omega)]
theorem mid_zero (xs : List Int) : mid xs 0 = lefts xs := by simp [mid, lefts]
theorem dstep_mid {xs : List Int} {m : Nat} (h : m < xs.length) : dstep xs (mid xs (m + 1), scan (base xs) (xs.drop (m + 1)).reverse) m = (mid xs m, scan (base xs) (xs.drop m).reverse) := by
  unfold dstep
  simp only
  rw [← scan_back (base xs) h]
  have hg : (mid xs (m + 1)).getD m false = scan (base xs) (xs.take (m + 1)) := by
    rw [List.getD_eq_getElem?_getD, mid_get h, if_neg (by omega)]; rfl
  rw [hg]
  congr 1
  apply List.ext_getElem?
  intro i
  by_cases hi : i < xs.length
  · by_cases him : i = m
    · subst him
      rw [mid_get hi, if_pos (Nat.le_refl _)]
      unfold left
      split
      · rename_i he
        rw [mid_get hi, if_neg (by omega)]
      · rw [List.getElem?_set_self (by rw [mid_length]; exact hi)]
    · rw [mid_get hi]
      have e : (mid xs (m + 1))[i]? = some (if m ≤ i then left xs i else scan (base xs) (xs.take (i + 1))) := by
        rw [mid_get hi]
        congr 1
        by_cases h1 : m ≤ i
        · rw [if_pos h1, if_pos (by omega)]
        · rw [if_neg h1, if_neg (by omega)]
      split
      · exact e
      · rw [List.getElem?_set_ne (fun h => him h.symm)]; exact e
  · rw [show (mid xs m)[i]? = none from List.getElem?_eq_none (by rw [mid_length]; omega)]
    split
    · rw [List.getElem?_eq_none (by rw [mid_length]; omega)]
    · rw [List.getElem?_eq_none (by rw [List.length_set, mid_length]; omega)]
theorem dstep_length (xs : List Int) (s : List Bool × Bool) (i : Nat) : (dstep xs s i).1.length = s.1.length := by
  unfold dstep
  simp only
  repeat' split
  all_goals simp
end Gl
end Go.Proofs.YtlcjfphhogcenaaDoor
