/-
  The encoding of the code points that have a script: plain functions on bytes, and that the program's and the reference's way to read them agree.
-/
import Derived.Test.YtlcjfphhogcenaaDoorPlain
import Derived.Lib.TrimUEq
set_option linter.unusedVariables false
set_option linter.unusedSimpArgs false
namespace Go.Proofs.YtlcjfphhogcenaaDoor
namespace Gl
/-- The bytes of a code point from 0 to 65535. -/
def unit (r : Int) : List UInt8 :=
  if r < 128 then [UInt8.ofNat r.toNat]
  else if r < 2048 then [UInt8.ofNat (192 + r.toNat / 64), UInt8.ofNat (128 + r.toNat % 64)]
  else [UInt8.ofNat (224 + r.toNat / 4096), UInt8.ofNat (128 + r.toNat / 64 % 64), UInt8.ofNat (128 + r.toNat % 64)]
/-- The number that one, two or three bytes would represent. -/
def value : List UInt8 → Int
  | [a] => a.toNat
  | [a, b] => a.toNat % 32 * 64 + b.toNat % 64
  | a :: b :: c :: _ => a.toNat % 16 * 4096 + b.toNat % 64 * 64 + c.toNat % 64
  | [] => 0
/-- Do the first n bytes encode a code point with a script? -/
def fits (n : Nat) (l : List UInt8) : Bool := decide (n ≤ l.length) && decide (0 ≤ script (value (l.take n))) && decide (unit (value (l.take n)) = l.take n)
/-- The code point with a script at the head of a list of bytes. -/
def first (l : List UInt8) : Option Int :=
  if fits 1 l then some (value (l.take 1)) else if fits 2 l then some (value (l.take 2)) else if fits 3 l then some (value (l.take 3)) else none
/-- The code points of a list of bytes. -/
def decodeN : Nat → List UInt8 → Option (List Int)
  | 0, l => if l = [] then some [] else none
  | f + 1, l => if l = [] then some [] else match first l with
    | none => none
    | some r => (decodeN f (l.drop (unit r).length)).map (r :: ·)
def decode (l : List UInt8) : Option (List Int) := decodeN l.length l
/-- The bytes of a list of code points. -/
def units (L : List Int) : List UInt8 := L.flatMap unit
def valid (L : List Int) : Bool := L.all fun r => decide (0 ≤ script r)
def encode (L : List Int) : Option (List UInt8) := if valid L then some (units L) else none

theorem unit_len (r : Int) : (unit r).length = if r < 128 then 1 else if r < 2048 then 2 else 3 := by
  unfold unit; split
  · rfl
  · split <;> rfl
theorem unit_len_bd (r : Int) : 1 ≤ (unit r).length ∧ (unit r).length ≤ 3 := by
  rw [unit_len]
  repeat' split
  all_goals omega
theorem unit_nat1 {r : Int} (h0 : 0 ≤ r) (h : r < 128) : ∃ a, unit r = [a] ∧ (a.toNat : Int) = r := by
  refine ⟨_, by unfold unit; rw [if_pos h], ?_⟩
  rw [UInt8.toNat_ofNat']; omega
theorem unit_nat2 {r : Int} (h0 : 128 ≤ r) (h : r < 2048) : ∃ a b, unit r = [a, b] ∧ a.toNat = 192 + r.toNat / 64 ∧ b.toNat = 128 + r.toNat % 64 := by
  refine ⟨_, _, by unfold unit; rw [if_neg (by omega), if_pos h], ?_, ?_⟩ <;> rw [UInt8.toNat_ofNat'] <;> omega
theorem unit_nat3 {r : Int} (h0 : 2048 ≤ r) (h : r ≤ 65535) : ∃ a b c, unit r = [a, b, c] ∧ a.toNat = 224 + r.toNat / 4096 ∧ b.toNat = 128 + r.toNat / 64 % 64 ∧ c.toNat = 128 + r.toNat % 64 := by
  refine ⟨_, _, _, by unfold unit; rw [if_neg (by omega), if_neg (by omega)], ?_, ?_, ?_⟩ <;> rw [UInt8.toNat_ofNat'] <;> omega
theorem value_unit {r : Int} (h0 : 0 ≤ r) (h : r ≤ 65535) : value (unit r) = r := by
  by_cases h1 : r < 128
  · obtain ⟨a, e, ha⟩ := unit_nat1 h0 h1
    rw [e]; simp [value, ha]
  by_cases h2 : r < 2048
  · obtain ⟨a, b, e, ha, hb⟩ := unit_nat2 (by omega) h2
    rw [e]; simp only [value, ha, hb]; omega
  · obtain ⟨a, b, c, e, ha, hb, hc⟩ := unit_nat3 (by omega) h
    rw [e]; simp only [value, ha, hb, hc]; omega

theorem fits_iff {n : Nat} {l : List UInt8} : fits n l = true ↔ n ≤ l.length ∧ 0 ≤ script (value (l.take n)) ∧ unit (value (l.take n)) = l.take n := by
  unfold fits; simp [and_assoc]
theorem fits_len {n : Nat} {l : List UInt8} (h : fits n l = true) : (unit (value (l.take n))).length = n := by
  obtain ⟨h1, _, h2⟩ := fits_iff.1 h
  rw [h2, List.length_take]; omega
theorem first_some {l : List UInt8} {r : Int} (h : first l = some r) : 0 ≤ script r ∧ ∃ t, l = unit r ++ t := by
  unfold first at h
  have key : ∀ n, fits n l = true → 0 ≤ script (value (l.take n)) ∧ ∃ t, l = unit (value (l.take n)) ++ t := fun n hn => by
    obtain ⟨_, h2, h3⟩ := fits_iff.1 hn
    exact ⟨h2, l.drop n, by rw [h3, List.take_append_drop]⟩
  split at h
  · rename_i h1; injection h with h; subst h; exact key 1 h1
  split at h
  · rename_i h1; injection h with h; subst h; exact key 2 h1
  split at h
  · rename_i h1; injection h with h; subst h; exact key 3 h1
  · cases h
theorem fits_unit {r : Int} (h : 0 ≤ script r) (t : List UInt8) : fits (unit r).length (unit r ++ t) = true := by
  have hb := script_bounds h
  rw [fits_iff]
  rw [List.take_left, value_unit (by omega) (by omega)]
  exact ⟨by simp, h, rfl⟩
theorem first_unit {r : Int} (h : 0 ≤ script r) (t : List UInt8) : first (unit r ++ t) = some r := by
  have hb := script_bounds h
  have hf := fits_unit h t
  have hv : value ((unit r ++ t).take (unit r).length) = r := by rw [List.take_left, value_unit (by omega) (by omega)]
  by_cases h1 : r < 128
  · have hl : (unit r).length = 1 := by rw [unit_len, if_pos h1]
    rw [hl] at hf hv
    unfold first; rw [if_pos hf, hv]
  by_cases h2 : r < 2048
  · have hl : (unit r).length = 2 := by rw [unit_len, if_neg h1, if_pos h2]
    have n1 : ¬ fits 1 (unit r ++ t) = true := fun hn => by
      have hn2 := fits_len hn
      obtain ⟨a, b, e, ha, hb'⟩ := unit_nat2 (r := r) (by omega) h2
      rw [e] at hn2
      simp only [List.cons_append, List.take_succ_cons, List.take_zero, value] at hn2
      rw [unit_len, if_neg (by omega)] at hn2
      split at hn2 <;> omega
    rw [hl] at hf hv
    unfold first; rw [if_neg n1, if_pos hf, hv]
  · have hl : (unit r).length = 3 := by rw [unit_len, if_neg h1, if_neg h2]
    obtain ⟨a, b, c, e, ha, hb', hc⟩ := unit_nat3 (r := r) (by omega) (by omega)
    have n1 : ¬ fits 1 (unit r ++ t) = true := fun hn => by
      have hn2 := fits_len hn
      rw [e] at hn2
      simp only [List.cons_append, List.take_succ_cons, List.take_zero, value] at hn2
      rw [unit_len, if_neg (by omega)] at hn2
      split at hn2 <;> omega
    have n2 : ¬ fits 2 (unit r ++ t) = true := fun hn => by
      have hn2 := fits_len hn
      obtain ⟨_, _, hn3⟩ := fits_iff.1 hn
      rw [e] at hn2 hn3
      simp only [List.cons_append, List.take_succ_cons, List.take_zero, value] at hn2 hn3
      rw [unit_len] at hn2
      have q1 : ¬ (↑a.toNat % 32 * 64 + ↑b.toNat % 64 : Int) < 128 := fun hh => by rw [if_pos hh] at hn2; omega
      rw [if_neg q1] at hn2
      have q2 : (↑a.toNat % 32 * 64 + ↑b.toNat % 64 : Int) < 2048 := by
        by_cases hh : (↑a.toNat % 32 * 64 + ↑b.toNat % 64 : Int) < 2048
        · exact hh
        · rw [if_neg hh] at hn2; omega
      obtain ⟨a', b', e', ha2, hb2⟩ := unit_nat2 (by omega) q2
      rw [e'] at hn3
      injection hn3 with e1 e2
      rw [e1] at ha2
      omega
    rw [hl] at hf hv
    unfold first; rw [if_neg n1, if_neg n2, if_pos hf, hv]

/-- The decoder of Go's range over a string, where its code point has a script. -/
theorem go_some {l : List UInt8} (h : 0 < l.length) (hs : 0 ≤ script ((Lib.decodeL l).1 : Int)) : first l = some ((Lib.decodeL l).1 : Int) ∧ (Lib.decodeL l).2 = (unit ((Lib.decodeL l).1 : Int)).length := by
  have key : ∀ c : Nat, 0 ≤ script (c : Int) → ∀ t, l = unit (c : Int) ++ t → first l = some (c : Int) := fun c hc t e => by rw [e]; exact first_unit hc t
  have hbd := script_bounds hs
  rw [Lib.decodeL_N] at hs hbd ⊢
  unfold Lib.decodeN at hs hbd ⊢
  match l, h with
  | a :: l', _ =>
    simp only [List.length_cons, List.getD_cons_zero, List.getD_cons_succ] at hs hbd key ⊢
    by_cases h1 : a.toNat < 128
    · simp only [h1, if_true] at hs hbd ⊢
      obtain ⟨a', e, ha⟩ := unit_nat1 (r := (a.toNat : Int)) (by omega) (by omega)
      have ea : a' = a := UInt8.toNat.inj (by omega)
      subst ea
      exact ⟨key _ hs l' (by rw [e]; rfl), by rw [e]; rfl⟩
    simp only [h1, if_false] at hs hbd ⊢
    by_cases h2 : a.toNat / 32 = 6 ∧ (1 < l'.length + 1 ∧ (l'.getD 0 0).toNat / 64 = 2)
    · simp only [h2, and_self, if_true] at hs hbd ⊢
      match l', h2 with
      | b :: l'', h2 =>
        simp only [List.getD_cons_zero] at h2 hs hbd key ⊢
        by_cases h3 : a.toNat % 32 * 64 + b.toNat % 64 ≥ 128
        · simp only [h3, if_true] at hs hbd ⊢
          obtain ⟨a', b', e, ha, hb⟩ := unit_nat2 (r := ((a.toNat % 32 * 64 + b.toNat % 64 : Nat) : Int)) (by omega) (by omega)
          have hbl := b.toNat_lt
          have ea : a' = a := UInt8.toNat.inj (by omega)
          have eb : b' = b := UInt8.toNat.inj (by omega)
          subst ea eb
          exact ⟨key _ hs l'' (by rw [e]; rfl), by rw [e]; rfl⟩
        · simp only [h3, if_false] at hbd; omega
      | [], h2 => simp at h2
    rw [if_neg h2] at hs hbd ⊢
    by_cases h4 : a.toNat / 16 = 14 ∧ (1 < l'.length + 1 ∧ (l'.getD 0 0).toNat / 64 = 2) ∧ (2 < l'.length + 1 ∧ (l'.getD 1 0).toNat / 64 = 2)
    · rw [if_pos h4] at hs hbd ⊢
      obtain ⟨b, c, l'', rfl⟩ : ∃ b c l'', l' = b :: c :: l'' := by
        cases l' with
        | nil => simp at h4
        | cons b l1 =>
          cases l1 with
          | nil => simp at h4
          | cons c l2 => exact ⟨b, c, l2, rfl⟩
      simp only [List.getD_cons_zero, List.getD_cons_succ] at h4 hs hbd key ⊢
      generalize hR : a.toNat % 16 * 4096 + b.toNat % 64 * 64 + c.toNat % 64 = R at *
      by_cases h5 : R ≥ 2048 ∧ (R < 55296 ∨ (57344 ≤ R ∧ R ≤ 1114111))
      · rw [if_pos h5] at hs hbd ⊢
        simp only at hs hbd ⊢
        obtain ⟨a', b', c', e, ha, hb, hc⟩ := unit_nat3 (r := (R : Int)) (by omega) (by omega)
        have hal := a.toNat_lt
        have hbl := b.toNat_lt
        have hcl := c.toNat_lt
        have ea : a' = a := UInt8.toNat.inj (by omega)
        have eb : b' = b := UInt8.toNat.inj (by omega)
        have ec : c' = c := UInt8.toNat.inj (by omega)
        subst ea eb ec
        exact ⟨key _ hs l'' (by rw [e]; rfl), by rw [e]; rfl⟩
      · rw [if_neg h5] at hbd
        simp only at hbd; omega
    rw [if_neg h4] at hs hbd ⊢
    split at hbd
    · split at hbd
      · simp only at hbd; omega
      · simp only at hbd; omega
    · simp only at hbd; omega
/-- The decoder of Go's range over a string, where it stands at a code point with a script. -/
theorem go_unit {r : Int} (h : 0 ≤ script r) (t : List UInt8) : Lib.decodeL (unit r ++ t) = (r.toNat, (unit r).length) := by
  have hb := script_bounds h
  rw [Lib.decodeL_N]
  unfold Lib.decodeN
  by_cases h1 : r < 128
  · obtain ⟨a, e, ha⟩ := unit_nat1 (r := r) (by omega) h1
    rw [e]
    simp only [List.cons_append, List.getD_cons_zero]
    rw [if_pos (by omega), show a.toNat = r.toNat by omega]; rfl
  by_cases h2 : r < 2048
  · obtain ⟨a, b, e, ha, hb'⟩ := unit_nat2 (r := r) (by omega) h2
    rw [e]
    simp only [List.cons_append, List.getD_cons_zero, List.getD_cons_succ, List.length_cons]
    rw [if_neg (by omega), if_pos (by omega), if_pos (by omega), show a.toNat % 32 * 64 + b.toNat % 64 = r.toNat by omega]; rfl
  · obtain ⟨a, b, c, e, ha, hb', hc⟩ := unit_nat3 (r := r) (by omega) (by omega)
    rw [e]
    simp only [List.cons_append, List.getD_cons_zero, List.getD_cons_succ, List.length_cons]
    rw [if_neg (by omega), if_neg (by omega), if_pos (by omega), if_pos (by omega), show a.toNat % 16 * 4096 + b.toNat % 64 * 64 + c.toNat % 64 = r.toNat by omega]; rfl
theorem go_none {l : List UInt8} (hs : script ((Lib.decodeL l).1 : Int) < 0) : first l = none := by
  cases hf : first l with
  | none => rfl
  | some r =>
    obtain ⟨h0, t, e⟩ := first_some hf
    have hb := script_bounds h0
    rw [e, go_unit h0] at hs
    simp only at hs
    rw [show ((r.toNat : Nat) : Int) = r by omega] at hs
    omega

theorem decodeN_iff : ∀ (f : Nat) (l : List UInt8) (L : List Int), l.length ≤ f → (decodeN f l = some L ↔ valid L = true ∧ l = units L)
  | 0, l, L, h => by
    have hl : l = [] := List.length_eq_zero_iff.1 (by omega)
    subst hl
    simp only [decodeN, if_true]
    constructor
    · intro h; injection h with h; subst h; exact ⟨rfl, rfl⟩
    · rintro ⟨h1, h2⟩
      cases L with
      | nil => rfl
      | cons r L =>
        have := (unit_len_bd r).1
        have h3 := congrArg List.length h2
        simp [units] at h3; omega
  | f + 1, l, L, h => by
    by_cases hl : l = []
    · subst hl
      simp only [decodeN, if_true]
      constructor
      · intro h; injection h with h; subst h; exact ⟨rfl, rfl⟩
      · rintro ⟨h1, h2⟩
        cases L with
        | nil => rfl
        | cons r L =>
          have := (unit_len_bd r).1
          have h3 := congrArg List.length h2
          simp [units] at h3; omega
    · have hpos : 0 < l.length := List.length_pos_iff.2 hl
      simp only [decodeN, if_neg hl]
      cases hf : first l with
      | none =>
        constructor
        · intro h; cases h
        · rintro ⟨h1, h2⟩
          cases L with
          | nil => exact absurd h2 hl
          | cons r L =>
            simp only [valid, List.all_cons, Bool.and_eq_true, decide_eq_true_eq] at h1
            rw [h2, show units (r :: L) = unit r ++ units L from rfl, first_unit h1.1] at hf
            cases hf
      | some r =>
        obtain ⟨h0, t, e⟩ := first_some hf
        have hb := (unit_len_bd r).1
        have ht : l.drop (unit r).length = t := by rw [e, List.drop_left]
        have ih := decodeN_iff f t
        have hlen : t.length ≤ f := by have h3 := congrArg List.length e; simp at h3; omega
        simp only [ht]
        constructor
        · intro h
          cases hd : decodeN f t with
          | none => rw [hd] at h; cases h
          | some M =>
            rw [hd] at h
            injection h with h
            subst h
            obtain ⟨v1, v2⟩ := (ih M hlen).1 hd
            refine ⟨?_, ?_⟩
            · simp only [valid, List.all_cons, Bool.and_eq_true, decide_eq_true_eq]; exact ⟨h0, v1⟩
            · rw [e, v2]; rfl
        · rintro ⟨h1, h2⟩
          cases L with
          | nil => exact absurd h2 hl
          | cons r' L =>
            simp only [valid, List.all_cons, Bool.and_eq_true, decide_eq_true_eq] at h1
            have e2 : l = unit r' ++ units L := h2
            have hr : r' = r := by
              rw [e2, first_unit h1.1] at hf
              injection hf
            subst hr
            have ht2 : units L = t := by rw [e] at e2; exact (List.append_cancel_left e2).symm
            rw [(ih L hlen).2 ⟨h1.2, ht2.symm⟩]; rfl
theorem decode_iff (l : List UInt8) (L : List Int) : decode l = some L ↔ valid L = true ∧ l = units L := decodeN_iff l.length l L (Nat.le_refl _)
theorem decodeN_more (f : Nat) (l : List UInt8) (h : l.length ≤ f) : decodeN f l = decode l := by
  have h1 := decodeN_iff f l
  have h2 := decode_iff l
  cases hd : decodeN f l with
  | some L => exact ((h2 L).2 ((h1 L h).1 hd)).symm
  | none =>
    cases hd2 : decode l with
    | none => rfl
    | some L => rw [(h1 L h).2 ((h2 L).1 hd2)] at hd; cases hd
theorem decode_nil : decode [] = some [] := rfl
theorem decode_step {l : List UInt8} (h : 0 < l.length) : decode l = match first l with | none => none | some r => (decode (l.drop (unit r).length)).map (r :: ·) := by
  have hl : l ≠ [] := List.length_pos_iff.1 h
  rw [← decodeN_more (l.length + 1) l (by omega)]
  simp only [decodeN, if_neg hl]
  cases hf : first l with
  | none => rfl
  | some r => simp only; rw [decodeN_more _ _ (by simp)]
theorem units_append (L M : List Int) : units (L ++ M) = units L ++ units M := by simp [units]
theorem valid_append (L M : List Int) : valid (L ++ M) = (valid L && valid M) := by simp [valid]
theorem units_len (L : List Int) : L.length ≤ (units L).length ∧ (units L).length ≤ 3 * L.length := by
  induction L with
  | nil => simp [units]
  | cons r L ih =>
    have := unit_len_bd r
    have e : units (r :: L) = unit r ++ units L := rfl
    rw [e]; simp; omega
end Gl
end Go.Proofs.YtlcjfphhogcenaaDoor
