/-
  The order of code points from left to right: plain functions, and that the program's and the reference's ways agree.
-/
import Derived.Test.YtlcjfphhogcenaaDoorPlain
set_option linter.unusedVariables false
set_option linter.unusedSimpArgs false
namespace Go.Proofs.YtlcjfphhogcenaaDoor
namespace Gl
/-- Has the code point a direction of its own? -/
def st (r : Int) : Bool := script r != 0
/-- Is it a Hebrew letter? -/
def hb (r : Int) : Bool := script r == 4
/-- The base direction: true for right-to-left. -/
def base (l : List Int) : Bool := match l.find? st with | some r => hb r | none => false
/-- The direction behind a list, where b held before it. -/
def scan (b : Bool) (l : List Int) : Bool := l.foldl (fun a r => if st r then hb r else a) b
/-- The direction of the code point with an index. -/
def left (l : List Int) (i : Nat) : Bool :=
  if scan (base l) (l.take (i + 1)) = scan (base l) (l.drop i).reverse then scan (base l) (l.take (i + 1)) else base l

/-- A list that was reversed: its digits back in their order. -/
def fixN : Nat → List Int → List Int
  | 0, _ => []
  | _ + 1, [] => []
  | f + 1, x :: t => if digit x then ((x :: t).takeWhile digit).reverse ++ fixN f ((x :: t).dropWhile digit) else x :: fixN f t
def fix (l : List Int) : List Int := fixN l.length l
/-- A right-to-left run as it stands from left to right. -/
def turned (l : List Int) : List Int := fix l.reverse

/-- The end of the run that begins at i. -/
def runEnd (p : Nat → Bool) (n : Nat) : Nat → Nat → Nat
  | 0, j => j
  | f + 1, j => if j < n ∧ p j = true then runEnd p n f (j + 1) else j
/-- The runs of a list, from an index on: by the directions of its code points. -/
def runsN (l : List Int) : Nat → Nat → List (List Int)
  | 0, _ => []
  | f + 1, i => if i < l.length then
      let j := runEnd (fun k => left l k == left l i) l.length l.length (i + 1)
      (if left l i then turned ((l.take j).drop i) else (l.take j).drop i) :: runsN l f j
    else []
def runs (l : List Int) : List (List Int) := runsN l l.length 0
/-- The order from left to right. -/
def order (l : List Int) : List Int := if base l then (runs l).reverse.flatten else (runs l).flatten

theorem scan_nil (b : Bool) : scan b [] = b := rfl
theorem scan_append (b : Bool) (l m : List Int) : scan b (l ++ m) = scan (scan b l) m := by simp [scan]
theorem scan_one (b : Bool) (r : Int) : scan b [r] = if st r then hb r else b := rfl

theorem fixN_more : ∀ (f : Nat) (l : List Int), l.length ≤ f → fixN f l = fix l := by
  have key : ∀ (n f g : Nat) (l : List Int), l.length ≤ n → l.length ≤ f → l.length ≤ g → fixN f l = fixN g l := by
    intro n
    induction n with
    | zero =>
      intro f g l h _ _
      have : l = [] := List.length_eq_zero_iff.1 (by omega)
      subst this
      cases f <;> cases g <;> rfl
    | succ n ih =>
      intro f g l hn hf hg
      cases l with
      | nil => cases f <;> cases g <;> rfl
      | cons x t =>
        simp at hn hf hg
        cases f with
        | zero => omega
        | succ f =>
          cases g with
          | zero => omega
          | succ g =>
            simp only [fixN]
            by_cases hd : digit x = true
            · rw [if_pos hd, if_pos hd]
              have hl : ((x :: t).dropWhile digit).length ≤ t.length := by
                rw [List.dropWhile_cons_of_pos hd]
                exact List.Sublist.length_le (List.dropWhile_sublist _)
              rw [ih f g _ (by omega) (by omega) (by omega)]
            · rw [if_neg hd, if_neg hd, ih f g t (by omega) (by omega) (by omega)]
  intro f l h
  exact key l.length f l.length l (Nat.le_refl _) h (Nat.le_refl _)
theorem fix_nil : fix [] = [] := rfl
theorem fix_other {x : Int} {t : List Int} (h : digit x = false) : fix (x :: t) = x :: fix t := by
  rw [← fixN_more (t.length + 1) (x :: t) (by simp)]
  simp only [fixN, h]
  rw [fixN_more t.length t (Nat.le_refl _)]; rfl
theorem fix_digits (d t : List Int) (hd : ∀ x ∈ d, digit x = true) (hne : d ≠ []) (ht : ∀ x, t.head? = some x → digit x = false) : fix (d ++ t) = d.reverse ++ fix t := by
  have e1 : (d ++ t).takeWhile digit = d := by
    rw [List.takeWhile_append_of_pos hd]
    cases t with
    | nil => simp
    | cons y t => rw [List.takeWhile_cons_of_neg (by rw [ht y rfl]; decide)]; simp
  have e2 : (d ++ t).dropWhile digit = t := by
    rw [List.dropWhile_append_of_pos hd]
    cases t with
    | nil => rfl
    | cons y t => rw [List.dropWhile_cons_of_neg (by rw [ht y rfl]; decide)]
  cases d with
  | nil => exact absurd rfl hne
  | cons x d =>
    rw [← fixN_more ((d ++ t).length + 1) (x :: d ++ t) (by simp)]
    have hx := hd x (by simp)
    simp only [List.cons_append, fixN, hx, if_true]
    rw [List.cons_append] at e1 e2
    rw [e1, e2, fixN_more _ t (by simp)]
theorem fix_length (l : List Int) : (fix l).length = l.length := by
  have key : ∀ (n : Nat) (l : List Int), l.length ≤ n → (fixN n l).length = l.length := by
    intro n
    induction n with
    | zero => intro l h; have : l = [] := List.length_eq_zero_iff.1 (by omega)
              subst this; rfl
    | succ n ih =>
      intro l h
      cases l with
      | nil => rfl
      | cons x t =>
        simp at h
        simp only [fixN]
        split
        · rename_i hd
          have hl : ((x :: t).dropWhile digit).length ≤ t.length := by
            rw [List.dropWhile_cons_of_pos hd]
            exact List.Sublist.length_le (List.dropWhile_sublist _)
          rw [List.length_append, List.length_reverse, ih _ (by omega)]
          have := congrArg List.length (List.takeWhile_append_dropWhile (p := digit) (l := x :: t))
          rw [List.length_append] at this
          omega
        · simp [ih t (by omega)]
  exact key _ l (Nat.le_refl _)
theorem turned_length (l : List Int) : (turned l).length = l.length := by simp [turned, fix_length]

theorem runEnd_le (p : Nat → Bool) (n : Nat) : ∀ (f j : Nat), j ≤ n → runEnd p n f j ≤ n ∧ j ≤ runEnd p n f j
  | 0, j, h => ⟨h, Nat.le_refl _⟩
  | f + 1, j, h => by
    simp only [runEnd]
    split
    · rename_i hc
      have := runEnd_le p n f (j + 1) (by omega)
      omega
    · exact ⟨h, Nat.le_refl _⟩
theorem runEnd_stop (p : Nat → Bool) (n : Nat) : ∀ (f j k : Nat), j ≤ k → k ≤ n → k ≤ j + f → (∀ i, j ≤ i → i < k → p i = true) → (k = n ∨ p k = false) → runEnd p n f j = k
  | 0, j, k, h1, h2, h3, _, _ => by simp only [runEnd]; omega
  | f + 1, j, k, h1, h2, h3, h4, h5 => by
    simp only [runEnd]
    by_cases hjk : j = k
    · subst hjk
      rw [if_neg]
      rintro ⟨a, b⟩
      rcases h5 with h5 | h5
      · omega
      · rw [h5] at b; cases b
    · rw [if_pos ⟨by omega, h4 j (Nat.le_refl _) (by omega)⟩]
      exact runEnd_stop p n f (j + 1) k (by omega) h2 (by omega) (fun i h h' => h4 i (by omega) h') h5
end Gl
end Go.Proofs.YtlcjfphhogcenaaDoor
