/-
  The order from left to right only moves code points; it changes nothing without Hebrew ones, and reverses a list of Hebrew ones.
-/
import Derived.Test.YtlcjfphhogcenaaDoorPlainO
set_option linter.unusedVariables false
set_option linter.unusedSimpArgs false
namespace Go.Proofs.YtlcjfphhogcenaaDoor
namespace Gl
theorem fix_perm (l : List Int) : (fix l).Perm l := by
  have key : ∀ (n : Nat) (l : List Int), l.length ≤ n → (fixN n l).Perm l := by
    intro n
    induction n with
    | zero => intro l h; have : l = [] := List.length_eq_zero_iff.1 (by omega)
              subst this; exact List.Perm.nil
    | succ n ih =>
      intro l h
      cases l with
      | nil => exact List.Perm.nil
      | cons x t =>
        simp at h
        simp only [fixN]
        split
        · rename_i hd
          have hl : ((x :: t).dropWhile digit).length ≤ t.length := by
            rw [List.dropWhile_cons_of_pos hd]
            exact List.Sublist.length_le (List.dropWhile_sublist _)
          have h1 := (List.reverse_perm ((x :: t).takeWhile digit)).append (ih ((x :: t).dropWhile digit) (by omega))
          rwa [List.takeWhile_append_dropWhile] at h1
        · exact (ih t (by omega)).cons x
  exact key _ l (Nat.le_refl _)
theorem turned_perm (l : List Int) : (turned l).Perm l := (fix_perm _).trans (List.reverse_perm l)
theorem take_drop_join {l : List Int} {i j : Nat} (h : i ≤ j) : (l.take j).drop i ++ l.drop j = l.drop i := by
  have e : (l.take j).drop i ++ l.drop j = (l.take j ++ l.drop j).drop i := by
    by_cases hj : j ≤ l.length
    · rw [List.drop_append_of_le_length (by simp; omega)]
    · rw [List.drop_eq_nil_of_le (as := l) (by omega : l.length ≤ j)]; simp
  rw [e, List.take_append_drop]
theorem runsN_perm (l : List Int) : ∀ (f i : Nat), l.length ≤ i + f → (runsN l f i).flatten.Perm (l.drop i)
  | 0, i, h => by simp only [runsN, List.flatten_nil]; rw [List.drop_eq_nil_of_le (by omega)]
  | f + 1, i, h => by
    simp only [runsN]
    split
    · rename_i hi
      have hj := runEnd_le (fun k => left l k == left l i) l.length l.length (i + 1) (by omega)
      simp only [List.flatten_cons]
      rw [← take_drop_join (l := l) (i := i) (j := runEnd (fun k => left l k == left l i) l.length l.length (i + 1)) (by omega)]
      refine List.Perm.append ?_ (runsN_perm l f _ (by omega))
      split
      · exact turned_perm _
      · exact List.Perm.refl _
    · rw [List.drop_eq_nil_of_le (by omega)]; exact List.Perm.nil
theorem order_perm (l : List Int) : (order l).Perm l := by
  have h := runsN_perm l l.length 0 (by omega)
  rw [List.drop_zero] at h
  unfold order
  split
  · exact (List.Perm.flatten (List.reverse_perm _)).trans h
  · exact h
theorem order_length (l : List Int) : (order l).length = l.length := (order_perm l).length_eq
theorem order_count (l : List Int) (n : Int) : (order l).count n = l.count n := (order_perm l).count_eq n

/-! without Hebrew code points -/
theorem scan_false {l : List Int} (h : ∀ x ∈ l, hb x = false) : scan false l = false := by
  unfold scan
  induction l with
  | nil => rfl
  | cons x t ih =>
    have hx := h x (by simp)
    simp only [List.foldl_cons, hx]
    have : (if st x = true then false else false) = false := by split <;> rfl
    rw [this]
    exact ih (fun y hy => h y (by simp [hy]))
theorem base_false {l : List Int} (h : ∀ x ∈ l, hb x = false) : base l = false := by
  unfold base
  split
  · rename_i r hr
    exact h r (List.mem_of_find?_eq_some hr)
  · rfl
theorem left_false {l : List Int} (h : ∀ x ∈ l, hb x = false) (i : Nat) : left l i = false := by
  unfold left
  rw [base_false h]
  have h1 : scan false (l.take (i + 1)) = false := scan_false fun x hx => h x (List.mem_of_mem_take hx)
  rw [h1]
  split <;> rfl
theorem runsN_false {l : List Int} (h : ∀ x ∈ l, hb x = false) : ∀ (f i : Nat), l.length ≤ i + f → (runsN l f i).flatten = l.drop i
  | 0, i, hl => by simp only [runsN, List.flatten_nil]; rw [List.drop_eq_nil_of_le (by omega)]
  | f + 1, i, hl => by
    simp only [runsN]
    split
    · have hj := runEnd_le (fun k => left l k == left l i) l.length l.length (i + 1) (by omega)
      simp only [List.flatten_cons]
      rw [if_neg (by rw [left_false h]; decide), runsN_false h f _ (by omega), take_drop_join (by omega)]
    · rw [List.drop_eq_nil_of_le (by omega)]; rfl
theorem order_plain {l : List Int} (h : ∀ x ∈ l, hb x = false) : order l = l := by
  unfold order
  rw [if_neg (by rw [base_false h]; decide)]
  exact (runsN_false h l.length 0 (by omega)).trans (List.drop_zero)

/-! with Hebrew code points alone -/
theorem st_of_hb {x : Int} (h : hb x = true) : st x = true := by simp [hb] at h; simp [st, h]
theorem scan_true {l : List Int} (h : ∀ x ∈ l, hb x = true) : scan true l = true := by
  unfold scan
  induction l with
  | nil => rfl
  | cons x t ih =>
    have hx := h x (by simp)
    simp only [List.foldl_cons, hx, ite_self]
    exact ih (fun y hy => h y (by simp [hy]))
theorem base_true {l : List Int} (h : ∀ x ∈ l, hb x = true) (hne : l ≠ []) : base l = true := by
  cases l with
  | nil => exact absurd rfl hne
  | cons x t =>
    have hx := h x (by simp)
    simp [base, List.find?, st_of_hb hx, hx]
theorem left_true {l : List Int} (h : ∀ x ∈ l, hb x = true) (hne : l ≠ []) (i : Nat) : left l i = true := by
  unfold left
  rw [base_true h hne]
  have h1 : scan true (l.take (i + 1)) = true := scan_true fun x hx => h x (List.mem_of_mem_take hx)
  rw [h1]
  split <;> rfl
theorem fix_hb {l : List Int} (h : ∀ x ∈ l, hb x = true) : fix l = l := by
  induction l with
  | nil => rfl
  | cons x t ih =>
    have hx := h x (by simp)
    have hd : digit x = false := by
      unfold hb at hx
      unfold digit
      have := script_bounds (r := x) (by simp at hx; omega)
      simp at hx
      unfold script at hx
      simp
      omega
    rw [fix_other hd, ih (fun y hy => h y (by simp [hy]))]
theorem order_hebrew {l : List Int} (h : ∀ x ∈ l, hb x = true) : order l = l.reverse := by
  cases hl : l with
  | nil => rfl
  | cons y t =>
    have hne : l ≠ [] := by rw [hl]; simp
    rw [← hl]
    have hlen : l.length = t.length + 1 := by rw [hl]; rfl
    have hr : runs l = [l.reverse] := by
      unfold runs
      rw [hlen]
      simp only [runsN]
      rw [if_pos (by omega)]
      have he : runEnd (fun k => left l k == left l 0) l.length l.length (0 + 1) = l.length :=
        runEnd_stop _ _ _ _ _ (by omega) (by omega) (by omega) (fun i _ _ => by simp [left_true h hne]) (Or.inl rfl)
      rw [he, if_pos (left_true h hne 0), List.take_length, List.drop_zero]
      unfold turned
      rw [fix_hb (fun x hx => h x (List.mem_reverse.1 hx))]
      congr 1
      cases t with
      | nil => rfl
      | cons z t => simp only [List.length_cons, runsN]; rw [if_neg (by omega)]
    unfold order
    rw [hr, if_pos (base_true h hne)]
    simp
theorem hb_iff (x : Int) : hb x = decide (1488 ≤ x ∧ x ≤ 1514) := by
  unfold hb
  rw [Bool.eq_iff_iff]
  simp
  unfold script
  omega
end Gl
end Go.Proofs.YtlcjfphhogcenaaDoor
