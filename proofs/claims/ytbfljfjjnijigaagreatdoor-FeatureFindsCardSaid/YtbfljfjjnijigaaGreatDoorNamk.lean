/-
  Names: Check (joined by shake.py out of the texts of layers 6 and 7).
-/
import Derived.Test.YtbfljfjjnijigaaGreatDoorBase
import Derived.Test.YtbfljfjjnijigaaGreatDoorPlain
import Derived.Lib.TrimUEq
import Derived.Laws.IdiomStrings
import Derived.Test.YtbfljfjjnijigaaGreatDoorBaseB
import Derived.Test.YtbfljfjjnijigaaGreatDoorShelf
import Derived.Deep.RegionHeld3
import Derived.RangeFuncNested
import Derived.RangeFuncBound
import Derived.RangeFuncCalls
import Derived.RangeFuncLeaves
import Derived.RangeFuncFrom
import Derived.Shelf.Abstract
import Derived.Shelf.RegionOpen
import Derived.OwnWalkIn
import Derived.TacticsInMore
import Derived.LoopNIn
import Derived.LoopIn
import Derived.Laws.EntriesVeiled
import Derived.Deep.DeepCutAuto
import Derived.RegionTactic
import Derived.Deep.RegionWith
import Derived.Lib.AppendZerosOnto
import Derived.Lib.SliceRun
import Derived.Lib.Walk
import Derived.Laws.AppendOwnNone
import Derived.Lib.RowBridge
import Derived.Lib.IndexMore
import Derived.Lib.Small
set_option linter.unusedVariables false
set_option linter.unusedSimpArgs false
namespace Go.Proofs.YtbfljfjjnijigaaGreatDoor
open Go.RowKit
theorem idx (k : Nat) (hk : k < 13) (w : World) : (Instr.index 149 (.agg Gl.tab) (.int .i64 (k : Int))).run Tryz.prog w = .ok (.agg #[.int .i32 (Gl.lo k), .int .i32 (Gl.hi k), .int .i64 (Gl.sc k)]) w := by
  obtain rfl | rfl | rfl | rfl | rfl | rfl | rfl | rfl | rfl | rfl | rfl | rfl | rfl : k = 0 ∨ k = 1 ∨ k = 2 ∨ k = 3 ∨ k = 4 ∨ k = 5 ∨ k = 6 ∨ k = 7 ∨ k = 8 ∨ k = 9 ∨ k = 10 ∨ k = 11 ∨ k = 12 := by omega
  all_goals kernel_rfl
theorem tabsz : (Tryz.prog.info? 149).map (·.size) = some Gl.tab.size := by kernel_rfl
set_option maxHeartbeats 1000000 in
theorem gscript_any (r : Int) (w : World) (ht : Gl.Tab w) :
    Calls Tryz.prog 80 #[.int .i64 r] w fun e w' => e = .returned (.int .i64 (Gl.script r)) ∧ Below w.heap.size w w' := by
  obtain ⟨t, fr, hg⟩ := ht
  by_cases h0 : r < 0
  · go_enter Tryz.func80, Tryz.ntmps80
    go_wp2
    go_ret
    exact ⟨ret_int (by unfold Gl.script; omega), Below.refl _ _⟩
  by_cases h1 : 1114111 < r
  · go_enter Tryz.func80, Tryz.ntmps80
    go_wp2
    go_ret
    exact ⟨ret_int (by unfold Gl.script; omega), Below.refl _ _⟩
  go_enter Tryz.func80, Tryz.ntmps80
  go_wp2_with (refine wpList_load_row rfl 149 _ rfl 0 rfl t _ fr _ hg Tryz.underlying149 rfl tabsz ?_)
  go_loopw [15] (fun i wr => ∃ k : Nat, k ≤ 13 ∧ i = .int .i64 k ∧ Hid (∀ j, j < k → ¬ (Gl.lo j ≤ r ∧ r ≤ Gl.hi j)) ∧ Below w.heap.size w wr) (fun i _ => 13 - (intOf i).toNat)
  case atStart => exact ⟨0, by omega, rfl, fun j hj => absurd hj (by omega), Below.refl _ _⟩
  case round =>
    obtain ⟨k, hk, rfl, hn, hb⟩ := hrel
    by_cases hlt : k < 13
    · have hi := fun W => idx k hlt W
      have hsz := hb.size
      by_cases h2 : Gl.lo k ≤ r
      · by_cases h3 : r ≤ Gl.hi k
        · go_wp2
          go_ret
          exact ⟨ret_int (Gl.scan_hit r k hlt h2 h3), hb.alloc hsz _⟩
        · go_wp2
          go_roundw
          case rel => exact ⟨k + 1, by omega, by go_num, no_snoc hn.out (fun h => h3 h.2), hb.alloc hsz _⟩
          case measure => simp [intOf]; omega
      · go_wp2
        go_roundw
        case rel => exact ⟨k + 1, by omega, by go_num, no_snoc hn.out (fun h => h2 h.1), hb.alloc hsz _⟩
        case measure => simp [intOf]; omega
    · obtain rfl : k = 13 := by omega
      go_wp2
      go_ret
      exact ⟨ret_int (Gl.scan_miss r hn.out), hb⟩
end Go.Proofs.YtbfljfjjnijigaaGreatDoor
namespace Go.Proofs.YtbfljfjjnijigaaGreatDoor
namespace Gl
/-- The bytes of a code point from 0 to 65535. -/
def unit (r : Int) : List UInt8 :=
  if r < 128 then [UInt8.ofNat r.toNat]
  else if r < 2048 then [UInt8.ofNat (192 + r.toNat / 64), UInt8.ofNat (128 + r.toNat % 64)]
  else [UInt8.ofNat (224 + r.toNat / 4096), UInt8.ofNat (128 + r.toNat / 64 % 64), UInt8.ofNat (128 + r.toNat % 64)]
/-- The number that one, two or three bytes would represent. -/
def value : List UInt8 → Int
  | [a] => a.toNat
  | [a, b] => a.toNat % 32 * 64 + b.toNat % 64
  | a :: b :: c :: _ => a.toNat % 16 * 4096 + b.toNat % 64 * 64 + c.toNat % 64
  | [] => 0
/-- Do the first n bytes encode a code point with a script? -/
def fits (n : Nat) (l : List UInt8) : Bool := decide (n ≤ l.length) && decide (0 ≤ script (value (l.take n))) && decide (unit (value (l.take n)) = l.take n)
/-- The code point with a script at the head of a list of bytes. -/
def first (l : List UInt8) : Option Int :=
  if fits 1 l then some (value (l.take 1)) else if fits 2 l then some (value (l.take 2)) else if fits 3 l then some (value (l.take 3)) else none
/-- The code points of a list of bytes. -/
def decodeN : Nat → List UInt8 → Option (List Int)
  | 0, l => if l = [] then some [] else none
  | f + 1, l => if l = [] then some [] else match first l with
    | none => none
    | some r => (decodeN f (l.drop (unit r).length)).map (r :: ·)
def decode (l : List UInt8) : Option (List Int) := decodeN l.length l
/-- The bytes of a list of code points. -/
def units (L : List Int) : List UInt8 := L.flatMap unit
def valid (L : List Int) : Bool := L.all fun r => decide (0 ≤ script r)
theorem unit_len (r : Int) : (unit r).length = if r < 128 then 1 else if r < 2048 then 2 else 3 := by
  unfold unit; split
  · rfl
  · split <;> rfl
theorem unit_len_bd (r : Int) : 1 ≤ (unit r).length ∧ (unit r).length ≤ 3 := by
  rw [unit_len]
  repeat' split
  all_goals omega
theorem unit_nat1 {r : Int} (h0 : 0 ≤ r) (h : r < 128) : ∃ a, unit r = [a] ∧ (a.toNat : Int) = r := by
  refine ⟨_, by unfold unit; rw [if_pos h], ?_⟩
  rw [UInt8.toNat_ofNat']; omega
theorem unit_nat2 {r : Int} (h0 : 128 ≤ r) (h : r < 2048) : ∃ a b, unit r = [a, b] ∧ a.toNat = 192 + r.toNat / 64 ∧ b.toNat = 128 + r.toNat % 64 := by
  refine ⟨_, _, by unfold unit; rw [if_neg (by omega), if_pos h], ?_, ?_⟩ <;> rw [UInt8.toNat_ofNat'] <;> omega
theorem unit_nat3 {r : Int} (h0 : 2048 ≤ r) (h : r ≤ 65535) : ∃ a b c, unit r = [a, b, c] ∧ a.toNat = 224 + r.toNat / 4096 ∧ b.toNat = 128 + r.toNat / 64 % 64 ∧ c.toNat = 128 + r.toNat % 64 := by
  refine ⟨_, _, _, by unfold unit; rw [if_neg (by omega), if_neg (by omega)], ?_, ?_, ?_⟩ <;> rw [UInt8.toNat_ofNat'] <;> omega
theorem value_unit {r : Int} (h0 : 0 ≤ r) (h : r ≤ 65535) : value (unit r) = r := by
  by_cases h1 : r < 128
  · obtain ⟨a, e, ha⟩ := unit_nat1 h0 h1
    rw [e]; simp [value, ha]
  by_cases h2 : r < 2048
  · obtain ⟨a, b, e, ha, hb⟩ := unit_nat2 (by omega) h2
    rw [e]; simp only [value, ha, hb]; omega
  · obtain ⟨a, b, c, e, ha, hb, hc⟩ := unit_nat3 (by omega) h
    rw [e]; simp only [value, ha, hb, hc]; omega
theorem fits_iff {n : Nat} {l : List UInt8} : fits n l = true ↔ n ≤ l.length ∧ 0 ≤ script (value (l.take n)) ∧ unit (value (l.take n)) = l.take n := by
  unfold fits; simp [and_assoc]
theorem fits_len {n : Nat} {l : List UInt8} (h : fits n l = true) : (unit (value (l.take n))).length = n := by
  obtain ⟨h1, _, h2⟩ := fits_iff.1 h
  rw [h2, List.length_take]; omega
theorem first_some {l : List UInt8} {r : Int} (h : first l = some r) : 0 ≤ script r ∧ ∃ t, l = unit r ++ t := by
  unfold first at h
  have key : ∀ n, fits n l = true → 0 ≤ script (value (l.take n)) ∧ ∃ t, l = unit (value (l.take n)) ++ t := fun n hn => by
    obtain ⟨_, h2, h3⟩ := fits_iff.1 hn
    exact ⟨h2, l.drop n, by rw [h3, List.take_append_drop]⟩
  split at h
  · rename_i h1; injection h with h; subst h; exact key 1 h1
  split at h
  · rename_i h1; injection h with h; subst h; exact key 2 h1
  split at h
  · rename_i h1; injection h with h; subst h; exact key 3 h1
  · cases h
theorem fits_unit {r : Int} (h : 0 ≤ script r) (t : List UInt8) : fits (unit r).length (unit r ++ t) = true := by
  have hb := script_bounds h
  rw [fits_iff]
  rw [List.take_left, value_unit (by omega) (by omega)]
  exact ⟨by simp, h, rfl⟩
theorem first_unit {r : Int} (h : 0 ≤ script r) (t : List UInt8) : first (unit r ++ t) = some r := by
  have hb := script_bounds h
  have hf := fits_unit h t
  have hv : value ((unit r ++ t).take (unit r).length) = r := by rw [List.take_left, value_unit (by omega) (by omega)]
  by_cases h1 : r < 128
  · have hl : (unit r).length = 1 := by rw [unit_len, if_pos h1]
    rw [hl] at hf hv
    unfold first; rw [if_pos hf, hv]
  by_cases h2 : r < 2048
  · have hl : (unit r).length = 2 := by rw [unit_len, if_neg h1, if_pos h2]
    have n1 : ¬ fits 1 (unit r ++ t) = true := fun hn => by
      have hn2 := fits_len hn
      obtain ⟨a, b, e, ha, hb'⟩ := unit_nat2 (r := r) (by omega) h2
      rw [e] at hn2
      simp only [List.cons_append, List.take_succ_cons, List.take_zero, value] at hn2
      rw [unit_len, if_neg (by omega)] at hn2
      split at hn2 <;> omega
    rw [hl] at hf hv
    unfold first; rw [if_neg n1, if_pos hf, hv]
  · have hl : (unit r).length = 3 := by rw [unit_len, if_neg h1, if_neg h2]
    obtain ⟨a, b, c, e, ha, hb', hc⟩ := unit_nat3 (r := r) (by omega) (by omega)
    have n1 : ¬ fits 1 (unit r ++ t) = true := fun hn => by
      have hn2 := fits_len hn
      rw [e] at hn2
      simp only [List.cons_append, List.take_succ_cons, List.take_zero, value] at hn2
      rw [unit_len, if_neg (by omega)] at hn2
      split at hn2 <;> omega
    have n2 : ¬ fits 2 (unit r ++ t) = true := fun hn => by
      have hn2 := fits_len hn
      obtain ⟨_, _, hn3⟩ := fits_iff.1 hn
      rw [e] at hn2 hn3
      simp only [List.cons_append, List.take_succ_cons, List.take_zero, value] at hn2 hn3
      rw [unit_len] at hn2
      have q1 : ¬ (↑a.toNat % 32 * 64 + ↑b.toNat % 64 : Int) < 128 := fun hh => by rw [if_pos hh] at hn2; omega
      rw [if_neg q1] at hn2
      have q2 : (↑a.toNat % 32 * 64 + ↑b.toNat % 64 : Int) < 2048 := by
        by_cases hh : (↑a.toNat % 32 * 64 + ↑b.toNat % 64 : Int) < 2048
        · exact hh
        · rw [if_neg hh] at hn2; omega
      obtain ⟨a', b', e', ha2, hb2⟩ := unit_nat2 (by omega) q2
      rw [e'] at hn3
      injection hn3 with e1 e2
      rw [e1] at ha2
      omega
    rw [hl] at hf hv
    unfold first; rw [if_neg n1, if_neg n2, if_pos hf, hv]
/-- The decoder of Go's range over a string, where its code point has a script. -/
theorem go_some {l : List UInt8} (h : 0 < l.length) (hs : 0 ≤ script ((Lib.decodeL l).1 : Int)) : first l = some ((Lib.decodeL l).1 : Int) ∧ (Lib.decodeL l).2 = (unit ((Lib.decodeL l).1 : Int)).length := by
  have key : ∀ c : Nat, 0 ≤ script (c : Int) → ∀ t, l = unit (c : Int) ++ t → first l = some (c : Int) := fun c hc t e => by rw [e]; exact first_unit hc t
  have hbd := script_bounds hs
  rw [Lib.decodeL_N] at hs hbd ⊢
  unfold Lib.decodeN at hs hbd ⊢
  match l, h with
  | a :: l', _ =>
    simp only [List.length_cons, List.getD_cons_zero, List.getD_cons_succ] at hs hbd key ⊢
    by_cases h1 : a.toNat < 128
    · simp only [h1, if_true] at hs hbd ⊢
      obtain ⟨a', e, ha⟩ := unit_nat1 (r := (a.toNat : Int)) (by omega) (by omega)
      have ea : a' = a := UInt8.toNat.inj (by omega)
      subst ea
      exact ⟨key _ hs l' (by rw [e]; rfl), by rw [e]; rfl⟩
    simp only [h1, if_false] at hs hbd ⊢
    by_cases h2 : a.toNat / 32 = 6 ∧ (1 < l'.length + 1 ∧ (l'.getD 0 0).toNat / 64 = 2)
    · simp only [h2, and_self, if_true] at hs hbd ⊢
      match l', h2 with
      | b :: l'', h2 =>
        simp only [List.getD_cons_zero] at h2 hs hbd key ⊢
        by_cases h3 : a.toNat % 32 * 64 + b.toNat % 64 ≥ 128
        · simp only [h3, if_true] at hs hbd ⊢
          obtain ⟨a', b', e, ha, hb⟩ := unit_nat2 (r := ((a.toNat % 32 * 64 + b.toNat % 64 : Nat) : Int)) (by omega) (by omega)
          have hbl := b.toNat_lt
          have ea : a' = a := UInt8.toNat.inj (by omega)
          have eb : b' = b := UInt8.toNat.inj (by omega)
          subst ea eb
          exact ⟨key _ hs l'' (by rw [e]; rfl), by rw [e]; rfl⟩
        · simp only [h3, if_false] at hbd; omega
      | [], h2 => simp at h2
    rw [if_neg h2] at hs hbd ⊢
    by_cases h4 : a.toNat / 16 = 14 ∧ (1 < l'.length + 1 ∧ (l'.getD 0 0).toNat / 64 = 2) ∧ (2 < l'.length + 1 ∧ (l'.getD 1 0).toNat / 64 = 2)
    · rw [if_pos h4] at hs hbd ⊢
      obtain ⟨b, c, l'', rfl⟩ : ∃ b c l'', l' = b :: c :: l'' := by
        cases l' with
        | nil => simp at h4
        | cons b l1 =>
          cases l1 with
          | nil => simp at h4
          | cons c l2 => exact ⟨b, c, l2, rfl⟩
      simp only [List.getD_cons_zero, List.getD_cons_succ] at h4 hs hbd key ⊢
      generalize hR : a.toNat % 16 * 4096 + b.toNat % 64 * 64 + c.toNat % 64 = R at *
      by_cases h5 : R ≥ 2048 ∧ (R < 55296 ∨ (57344 ≤ R ∧ R ≤ 1114111))
      · rw [if_pos h5] at hs hbd ⊢
        simp only at hs hbd ⊢
        obtain ⟨a', b', c', e, ha, hb, hc⟩ := unit_nat3 (r := (R : Int)) (by omega) (by omega)
        have hal := a.toNat_lt
        have hbl := b.toNat_lt
        have hcl := c.toNat_lt
        have ea : a' = a := UInt8.toNat.inj (by omega)
        have eb : b' = b := UInt8.toNat.inj (by omega)
        have ec : c' = c := UInt8.toNat.inj (by omega)
        subst ea eb ec
        exact ⟨key _ hs l'' (by rw [e]; rfl), by rw [e]; rfl⟩
      · rw [if_neg h5] at hbd
        simp only at hbd; omega
    rw [if_neg h4] at hs hbd ⊢
    split at hbd
    · split at hbd
      · simp only at hbd; omega
      · simp only at hbd; omega
    · simp only at hbd; omega
/-- The decoder of Go's range over a string, where it stands at a code point with a script. -/
theorem go_unit {r : Int} (h : 0 ≤ script r) (t : List UInt8) : Lib.decodeL (unit r ++ t) = (r.toNat, (unit r).length) := by
  have hb := script_bounds h
  rw [Lib.decodeL_N]
  unfold Lib.decodeN
  by_cases h1 : r < 128
  · obtain ⟨a, e, ha⟩ := unit_nat1 (r := r) (by omega) h1
    rw [e]
    simp only [List.cons_append, List.getD_cons_zero]
    rw [if_pos (by omega), show a.toNat = r.toNat by omega]; rfl
  by_cases h2 : r < 2048
  · obtain ⟨a, b, e, ha, hb'⟩ := unit_nat2 (r := r) (by omega) h2
    rw [e]
    simp only [List.cons_append, List.getD_cons_zero, List.getD_cons_succ, List.length_cons]
    rw [if_neg (by omega), if_pos (by omega), if_pos (by omega), show a.toNat % 32 * 64 + b.toNat % 64 = r.toNat by omega]; rfl
  · obtain ⟨a, b, c, e, ha, hb', hc⟩ := unit_nat3 (r := r) (by omega) (by omega)
    rw [e]
    simp only [List.cons_append, List.getD_cons_zero, List.getD_cons_succ, List.length_cons]
    rw [if_neg (by omega), if_neg (by omega), if_pos (by omega), if_pos (by omega), show a.toNat % 16 * 4096 + b.toNat % 64 * 64 + c.toNat % 64 = r.toNat by omega]; rfl
theorem go_none {l : List UInt8} (hs : script ((Lib.decodeL l).1 : Int) < 0) : first l = none := by
  cases hf : first l with
  | none => rfl
  | some r =>
    obtain ⟨h0, t, e⟩ := first_some hf
    have hb := script_bounds h0
    rw [e, go_unit h0] at hs
    simp only at hs
    rw [show ((r.toNat : Nat) : Int) = r by omega] at hs
    omega
theorem decodeN_iff : ∀ (f : Nat) (l : List UInt8) (L : List Int), l.length ≤ f → (decodeN f l = some L ↔ valid L = true ∧ l = units L)
  | 0, l, L, h => by
    have hl : l = [] := List.length_eq_zero_iff.1 (by omega)
    subst hl
    simp only [decodeN, if_true]
    constructor
    · intro h; injection h with h; subst h; exact ⟨rfl, rfl⟩
    · rintro ⟨h1, h2⟩
      cases L with
      | nil => rfl
      | cons r L =>
        have := (unit_len_bd r).1
        have h3 := congrArg List.length h2
        simp [units] at h3; omega
  | f + 1, l, L, h => by
    by_cases hl : l = []
    · subst hl
      simp only [decodeN, if_true]
      constructor
      · intro h; injection h with h; subst h; exact ⟨rfl, rfl⟩
      · rintro ⟨h1, h2⟩
        cases L with
        | nil => rfl
        | cons r L =>
          have := (unit_len_bd r).1
          have h3 := congrArg List.length h2
          simp [units] at h3; omega
    · have hpos : 0 < l.length := List.length_pos_iff.2 hl
      simp only [decodeN, if_neg hl]
      cases hf : first l with
      | none =>
        constructor
        · intro h; cases h
        · rintro ⟨h1, h2⟩
          cases L with
          | nil => exact absurd h2 hl
          | cons r L =>
            simp only [valid, List.all_cons, Bool.and_eq_true, decide_eq_true_eq] at h1
            rw [h2, show units (r :: L) = unit r ++ units L from rfl, first_unit h1.1] at hf
            cases hf
      | some r =>
        obtain ⟨h0, t, e⟩ := first_some hf
        have hb := (unit_len_bd r).1
        have ht : l.drop (unit r).length = t := by rw [e, List.drop_left]
        have ih := decodeN_iff f t
        have hlen : t.length ≤ f := by have h3 := congrArg List.length e; simp at h3; omega
        simp only [ht]
        constructor
        · intro h
          cases hd : decodeN f t with
          | none => rw [hd] at h; cases h
          | some M =>
            rw [hd] at h
            injection h with h
            subst h
            obtain ⟨v1, v2⟩ := (ih M hlen).1 hd
            refine ⟨?_, ?_⟩
            · simp only [valid, List.all_cons, Bool.and_eq_true, decide_eq_true_eq]; exact ⟨h0, v1⟩
            · rw [e, v2]; rfl
        · rintro ⟨h1, h2⟩
          cases L with
          | nil => exact absurd h2 hl
          | cons r' L =>
            simp only [valid, List.all_cons, Bool.and_eq_true, decide_eq_true_eq] at h1
            have e2 : l = unit r' ++ units L := h2
            have hr : r' = r := by
              rw [e2, first_unit h1.1] at hf
              injection hf
            subst hr
            have ht2 : units L = t := by rw [e] at e2; exact (List.append_cancel_left e2).symm
            rw [(ih L hlen).2 ⟨h1.2, ht2.symm⟩]; rfl
theorem decode_iff (l : List UInt8) (L : List Int) : decode l = some L ↔ valid L = true ∧ l = units L := decodeN_iff l.length l L (Nat.le_refl _)
theorem decodeN_more (f : Nat) (l : List UInt8) (h : l.length ≤ f) : decodeN f l = decode l := by
  have h1 := decodeN_iff f l
  have h2 := decode_iff l
  cases hd : decodeN f l with
  | some L => exact ((h2 L).2 ((h1 L h).1 hd)).symm
  | none =>
    cases hd2 : decode l with
    | none => rfl
    | some L => rw [(h1 L h).2 ((h2 L).1 hd2)] at hd; cases hd
theorem decode_nil : decode [] = some [] := rfl
theorem decode_step {l : List UInt8} (h : 0 < l.length) : decode l = match first l with | none => none | some r => (decode (l.drop (unit r).length)).map (r :: ·) := by
  have hl : l ≠ [] := List.length_pos_iff.1 h
  rw [← decodeN_more (l.length + 1) l (by omega)]
  simp only [decodeN, if_neg hl]
  cases hf : first l with
  | none => rfl
  | some r => simp only; rw [decodeN_more _ _ (by simp)]
theorem units_append (L M : List Int) : units (L ++ M) = units L ++ units M := by simp [units]
theorem valid_append (L M : List Int) : valid (L ++ M) = (valid L && valid M) := by simp [valid]
theorem units_len (L : List Int) : L.length ≤ (units L).length ∧ (units L).length ≤ 3 * L.length := by
  induction L with
  | nil => simp [units]
  | cons r L ih =>
    have := unit_len_bd r
    have e : units (r :: L) = unit r ++ units L := rfl
    rw [e]; simp; omega
end Gl
end Go.Proofs.YtbfljfjjnijigaaGreatDoor
namespace Go.Proofs.YtbfljfjjnijigaaGreatDoor
open Go.RowKit
/-- A list of integers of the call's own, and an error number. -/
def DecPost (o : Option (List Int)) (w : World) (e : Ending) (w' : World) : Prop :=
  Below w.heap.size w w' ∧ ∃ v, OI w' w.heap.size v (o.getD []) ∧ e = .returned (.tuple #[v, .int .i64 (if o.isSome then 0 else 4)])
theorem dec_some {s : ByteArray} {pos : Nat} (h : pos < s.size) (hs : 0 ≤ Gl.script ((Utf8.decode s pos).1 : Int)) (acc : List Int)
    (ha : Gl.decode s.data.toList = (Gl.decode (s.data.toList.drop pos)).map (acc ++ ·)) :
    Gl.decode s.data.toList = (Gl.decode (s.data.toList.drop (pos + (Utf8.decode s pos).2))).map ((acc ++ [((Utf8.decode s pos).1 : Int)]) ++ ·) := by
  rw [← Lib.decodeL_drop] at hs ⊢
  have hl : 0 < (s.data.toList.drop pos).length := by rw [List.length_drop]; have := Lib.size_eq s; omega
  obtain ⟨h1, h2⟩ := Gl.go_some hl hs
  rw [ha, Gl.decode_step hl, h1]
  simp only
  rw [List.drop_drop, ← h2, Option.map_map]
  congr 1
  funext L
  simp
theorem dec_none {s : ByteArray} {pos : Nat} (h : pos < s.size) (hs : Gl.script ((Utf8.decode s pos).1 : Int) < 0) (acc : List Int)
    (ha : Gl.decode s.data.toList = (Gl.decode (s.data.toList.drop pos)).map (acc ++ ·)) : Gl.decode s.data.toList = none := by
  rw [← Lib.decodeL_drop] at hs
  have hl : 0 < (s.data.toList.drop pos).length := by rw [List.length_drop]; have := Lib.size_eq s; omega
  rw [ha, Gl.decode_step hl, Gl.go_none hs]; rfl
theorem dec_end {s : ByteArray} {pos : Nat} (h : ¬ pos < s.size) (acc : List Int)
    (ha : Gl.decode s.data.toList = (Gl.decode (s.data.toList.drop pos)).map (acc ++ ·)) : Gl.decode s.data.toList = some acc := by
  have := Lib.size_eq s
  rw [ha, List.drop_of_length_le (by omega), Gl.decode_nil]; simp
set_option maxHeartbeats 4000000 in
theorem gdecode_any (s : ByteArray) (w : World) (ht : Gl.Tab w) (hs : s.size ≤ 10000000000000) :
    Calls Tryz.prog 78 #[.string s] w (DecPost (Gl.decode s.data.toList) w) := by
  have hv := ht.lt
  go_enter Tryz.func78, Tryz.ntmps78
  go_wp2_with fail
  go_loopw [2] (fun v wr => ∃ (pos : Nat) (acc : List Int), OI wr (w.heap.size + 1) v acc ∧ wr.heap[w.heap.size]? = some (.stringIter s pos) ∧ Below w.heap.size w wr ∧ Hid (Gl.decode s.data.toList = (Gl.decode (s.data.toList.drop pos)).map (acc ++ ·)) ∧ acc.length ≤ pos ∧ acc.length ≤ s.size) (fun _ wr => s.size - wr.iterPos w.heap.size)
  case atStart =>
    exact ⟨0, [], OI.nil _ _, by have := World.iter_heap w s 0; simpa using this, (Below.refl _ w).alloc (Nat.le_refl _) _, by simp [Hid], by simp, by simp⟩
  case round =>
    obtain ⟨pos, acc, hown, hit, hbw, hacc, hal, hal2⟩ := hrel
    have hsz : w.heap.size < wr.heap.size := (Array.getElem?_eq_some_iff.1 hit).1
    have htw := ht.below hbw (Nat.le_refl _)
    by_cases hp : pos < s.size
    · have hnx : ∀ ty, (Instr.next (.pointer (some ⟨w.heap.size, 0, none⟩)) true ty).run Tryz.prog wr = _ := fun ty => Lib.run_next_any_at wr w.heap.size s pos ty hit hp
      have hwd := Lib.width_pos s pos
      have hd1 := decode_le s pos
      have hown2 := hown.iterAt (Nat.lt_succ_self _) s (pos + (Utf8.decode s pos).2)
      have hit2 := Lib.iterAt_heap wr w.heap.size s pos (pos + (Utf8.decode s pos).2) hit
      have hbw2 := Lib.below_iterAt hbw (k := w.heap.size) (by omega) s (pos + (Utf8.decode s pos).2)
      have htw2 := htw.iterAt (k := w.heap.size) (by omega) s (pos + (Utf8.decode s pos).2)
      by_cases h0 : Gl.script ((Utf8.decode s pos).1 : Int) < 0
      · have hfin := dec_none hp h0 acc hacc.out
        have HF := Lib.hid hfin
        clear hfin
        go_wp2_with (go_at_call 80; refine (gscript_any _ _ htw2).mono ?_; rintro e w1 ⟨rfl, hb1⟩)
        go_ret2
        exact ⟨hbw2.trans (hb1.mono (by rw [Lib.iterAt_size]; omega)), .slice none 0 0, by rw [HF.out]; exact OI.nil _ _, by rw [HF.out]; rfl⟩
      · have hacc2 := Lib.hid (dec_some hp (by omega) acc hacc.out)
        go_wp2_with (go_at_call 80; refine (gscript_any _ _ htw2).mono ?_)
        rintro e w1 rfl hb1
        have hz1 := hb1.size
        rw [Lib.iterAt_size] at hz1
        have hown3 := hown2.below hb1 (Nat.le_refl _)
        go_wp2_with (at_builtin; go_loud (refine append_int rfl _ _ rfl w1 (w.heap.size + 1) u2 acc ((Utf8.decode s pos).1 : Int) rfl hown3 rfl (by omega) (by omega) ?_; intro v' w2 hown4 hb2 hg2))
        go_roundw
        case rel =>
          have hi1 : w1.heap[w.heap.size]? = some (.stringIter s (pos + (Utf8.decode s pos).2)) := (hb1.block _ (by rw [Lib.iterAt_size]; omega)).trans hit2
          exact ⟨pos + (Utf8.decode s pos).2, acc ++ [((Utf8.decode s pos).1 : Int)], hown4, (hb2.block _ (by omega)).trans hi1, (hbw2.trans (hb1.mono (by rw [Lib.iterAt_size]; omega))).trans (hb2.mono (by omega)), hacc2, by simp; omega, by simp; omega⟩
        case measure =>
          have hi1 : w1.heap[w.heap.size]? = some (.stringIter s (pos + (Utf8.decode s pos).2)) := (hb1.block _ (by rw [Lib.iterAt_size]; omega)).trans hit2
          simp only [World.iterPos, (hb2.block _ (by omega)).trans hi1, hit]
          omega
    · have hnx : ∀ ty, (Instr.next (.pointer (some ⟨w.heap.size, 0, none⟩)) true ty).run Tryz.prog wr = _ := fun ty => Lib.run_next_end_at wr w.heap.size s pos ty hit hp
      have hfin := Lib.hid (dec_end hp acc hacc.out)
      go_wp2_with fail
      go_ret2
      exact ⟨hbw, _, by rw [hfin.out]; exact hown.mono (by omega), by rw [hfin.out]; rfl⟩
end Go.Proofs.YtbfljfjjnijigaaGreatDoor
namespace Go.Proofs.YtbfljfjjnijigaaGreatDoor
open Go.RowKit
/-- A string and an error number. -/
def EncPost (o : Option (List UInt8)) (w : World) (e : Ending) (w' : World) : Prop :=
  e = .returned (.tuple #[.string ⟨(o.getD []).toArray⟩, .int .i64 (if o.isSome then 0 else 4)]) ∧ Below w.heap.size w w'
end Go.Proofs.YtbfljfjjnijigaaGreatDoor
namespace Go.Proofs.YtbfljfjjnijigaaGreatDoor
namespace Gl
/-- Has the code point a direction of its own? -/
def st (r : Int) : Bool := script r != 0
/-- Is it a Hebrew letter? -/
def hb (r : Int) : Bool := script r == 4
/-- The base direction: true for right-to-left. -/
def base (l : List Int) : Bool := match l.find? st with | some r => hb r | none => false
/-- The direction behind a list, where b held before it. -/
def scan (b : Bool) (l : List Int) : Bool := l.foldl (fun a r => if st r then hb r else a) b
/-- The direction of the code point with an index. -/
def left (l : List Int) (i : Nat) : Bool :=
  if scan (base l) (l.take (i + 1)) = scan (base l) (l.drop i).reverse then scan (base l) (l.take (i + 1)) else base l
/-- A list that was reversed: its digits back in their order. -/
def fixN : Nat → List Int → List Int
  | 0, _ => []
  | _ + 1, [] => []
  | f + 1, x :: t => if digit x then ((x :: t).takeWhile digit).reverse ++ fixN f ((x :: t).dropWhile digit) else x :: fixN f t
def fix (l : List Int) : List Int := fixN l.length l
/-- A right-to-left run as it stands from left to right. -/
def turned (l : List Int) : List Int := fix l.reverse
theorem fixN_more : ∀ (f : Nat) (l : List Int), l.length ≤ f → fixN f l = fix l := by
  have key : ∀ (n f g : Nat) (l : List Int), l.length ≤ n → l.length ≤ f → l.length ≤ g → fixN f l = fixN g l := by
    intro n
    induction n with
    | zero =>
      intro f g l h _ _
      have : l = [] := List.length_eq_zero_iff.1 (by omega)
      subst this
      cases f <;> cases g <;> rfl
    | succ n ih =>
      intro f g l hn hf hg
      cases l with
      | nil => cases f <;> cases g <;> rfl
      | cons x t =>
        simp at hn hf hg
        cases f with
        | zero => omega
        | succ f =>
          cases g with
          | zero => omega
          | succ g =>
            simp only [fixN]
            by_cases hd : digit x = true
            · rw [if_pos hd, if_pos hd]
              have hl : ((x :: t).dropWhile digit).length ≤ t.length := by
                rw [List.dropWhile_cons_of_pos hd]
                exact List.Sublist.length_le (List.dropWhile_sublist _)
              rw [ih f g _ (by omega) (by omega) (by omega)]
            · rw [if_neg hd, if_neg hd, ih f g t (by omega) (by omega) (by omega)]
  intro f l h
  exact key l.length f l.length l (Nat.le_refl _) h (Nat.le_refl _)
theorem fix_nil : fix [] = [] := rfl
theorem fix_other {x : Int} {t : List Int} (h : digit x = false) : fix (x :: t) = x :: fix t := by
  rw [← fixN_more (t.length + 1) (x :: t) (by simp)]
  simp only [fixN, h]
  rw [fixN_more t.length t (Nat.le_refl _)]; rfl
theorem fix_digits (d t : List Int) (hd : ∀ x ∈ d, digit x = true) (hne : d ≠ []) (ht : ∀ x, t.head? = some x → digit x = false) : fix (d ++ t) = d.reverse ++ fix t := by
  have e1 : (d ++ t).takeWhile digit = d := by
    rw [List.takeWhile_append_of_pos hd]
    cases t with
    | nil => simp
    | cons y t => rw [List.takeWhile_cons_of_neg (by rw [ht y rfl]; decide)]; simp
  have e2 : (d ++ t).dropWhile digit = t := by
    rw [List.dropWhile_append_of_pos hd]
    cases t with
    | nil => rfl
    | cons y t => rw [List.dropWhile_cons_of_neg (by rw [ht y rfl]; decide)]
  cases d with
  | nil => exact absurd rfl hne
  | cons x d =>
    rw [← fixN_more ((d ++ t).length + 1) (x :: d ++ t) (by simp)]
    have hx := hd x (by simp)
    simp only [List.cons_append, fixN, hx, if_true]
    rw [List.cons_append] at e1 e2
    rw [e1, e2, fixN_more _ t (by simp)]
end Gl
end Go.Proofs.YtbfljfjjnijigaaGreatDoor
namespace Go.Proofs.YtbfljfjjnijigaaGreatDoor
open Go.RowKit
/-- Block b is just the cells l (of the element type t), none of them frozen. -/
def Blk (w : World) (b : Nat) (t : TypeId) (l : List Value) : Prop := w.heap[b]? = some (.cells l.toArray t (0, 0))
theorem Blk.lt {w : World} {b : Nat} {t : TypeId} {l : List Value} (h : Blk w b t l) : b < w.heap.size := (Array.getElem?_eq_some_iff.1 h).1
theorem Blk.cell {w : World} {b : Nat} {t : TypeId} {l : List Value} (h : Blk w b t l) (i : Nat) : w.cell? ⟨b, i, none⟩ = l[i]? := by
  unfold Blk at h
  simp [World.cell?, h]
theorem Blk.below {w w' : World} {b D : Nat} {t : TypeId} {l : List Value} (h : Blk w b t l) (hb : Below D w w') (hD : b < D) : Blk w' b t l := (hb.block b hD).trans h
end Go.Proofs.YtbfljfjjnijigaaGreatDoor
namespace Go.Proofs.YtbfljfjjnijigaaGreatDoor
open Go.RowKit
/-- The list is turned up to index i. -/
def TurnRel (xs cur : List Int) (i : Nat) : Prop :=
  cur.length = xs.length ∧ ((i ≤ xs.length ∧ Gl.turned xs = cur.take i ++ Gl.fix (cur.drop i)) ∨ (xs.length ≤ i ∧ i ≤ xs.length + 1 ∧ cur = Gl.turned xs))
theorem TurnRel.one {xs cur : List Int} {i : Nat} (h : TurnRel xs cur i) (hi : i < xs.length) (hd : Gl.digit (gi cur i) = false) : TurnRel xs cur (i + 1) := by
  obtain ⟨hl, ⟨h1, h2⟩ | ⟨h3, _, _⟩⟩ := h
  · refine ⟨hl, Or.inl ⟨by omega, ?_⟩⟩
    rw [h2, drop_gi (by omega), Gl.fix_other hd, take_gi (by omega)]; simp
  · omega
theorem TurnRel.some {xs cur : List Int} {i j : Nat} (h : TurnRel xs cur i) (hij : i < j) (hj : j ≤ xs.length) (hd : ∀ k, i ≤ k → k < j → Gl.digit (gi cur k) = true) (hs : j = xs.length ∨ Gl.digit (gi cur j) = false) :
    TurnRel xs (cur.take i ++ ((cur.drop i).take (j - i)).reverse ++ cur.drop j) (j + 1) := by
  obtain ⟨hl, ⟨h1, h2⟩ | ⟨h3, _, _⟩⟩ := h
  · have e1 : cur.drop i = (cur.drop i).take (j - i) ++ cur.drop j := by
      have := List.take_append_drop (j - i) (cur.drop i)
      rw [List.drop_drop, show i + (j - i) = j by omega] at this
      exact this.symm
    have hz : ((cur.drop i).take (j - i)).length = j - i := by simp; omega
    have hdig : ∀ x ∈ (cur.drop i).take (j - i), Gl.digit x = true := fun x hx => by
      obtain ⟨k, hk, rfl⟩ := List.mem_iff_getElem.1 hx
      have hk' : k < j - i := by omega
      have := hd (i + k) (by omega) (by omega)
      rw [gi_eq (by omega)] at this
      simpa [List.getElem_take, List.getElem_drop] using this
    have hne : (cur.drop i).take (j - i) ≠ [] := by
      intro h0
      have := congrArg List.length h0
      rw [hz] at this; simp at this; omega
    have hhead : ∀ x, (cur.drop j).head? = Option.some x → Gl.digit x = false := fun x hx => by
      rcases hs with hs | hs
      · rw [List.drop_of_length_le (by omega)] at hx; cases hx
      · by_cases hjl : j < cur.length
        · rw [drop_gi hjl] at hx
          injection hx with hx
          rw [← hx]; exact hs
        · rw [List.drop_of_length_le (by omega)] at hx; cases hx
    have e2 := Gl.fix_digits _ _ hdig hne hhead
    rw [← e1] at e2
    have hl2 : (cur.take i ++ ((cur.drop i).take (j - i)).reverse).length = j := by rw [List.length_append, List.length_reverse, hz, List.length_take]; omega
    refine ⟨by rw [List.length_append, hl2, List.length_drop]; omega, ?_⟩
    rw [e2, ← List.append_assoc] at h2
    by_cases hjn : j < xs.length
    · left
      refine ⟨by omega, ?_⟩
      have hnd : Gl.digit (gi cur j) = false := by
        rcases hs with hs | hs
        · omega
        · exact hs
      rw [h2, show cur.drop j = gi cur j :: cur.drop (j + 1) from drop_gi (by omega), Gl.fix_other hnd]
      generalize cur.take i ++ ((cur.drop i).take (j - i)).reverse = P at hl2 ⊢
      subst hl2
      rw [show P ++ gi cur P.length :: cur.drop (P.length + 1) = (P ++ [gi cur P.length]) ++ cur.drop (P.length + 1) by simp, List.take_left' (by simp), List.drop_left' (by simp)]
      simp
    · right
      refine ⟨by omega, by omega, ?_⟩
      rw [h2, show cur.drop j = [] from List.drop_of_length_le (by omega), Gl.fix_nil]
  · omega
end Go.Proofs.YtbfljfjjnijigaaGreatDoor
namespace Go.Proofs.YtbfljfjjnijigaaGreatDoor
open Go.RowKit Go.Shelf
attribute [local go_sem] Oper.semAt_some
/-- What a round keeps: all that lies below n₀, and block Bs. -/
def KpB (n₀ Bs : Nat) (W W' : World) : Prop := Below n₀ W W' ∧ W'.heap[Bs]? = W.heap[Bs]?
theorem KpB.refl (n₀ Bs : Nat) (W : World) : KpB n₀ Bs W W := ⟨Below.refl _ _, rfl⟩
theorem KpB.trans {n₀ Bs : Nat} {A B C : World} (h : KpB n₀ Bs A B) (k : KpB n₀ Bs B C) : KpB n₀ Bs A C := ⟨h.1.trans k.1, k.2.trans h.2⟩
theorem KpB.cell {n₀ Bs : Nat} {A B : World} (h : KpB n₀ Bs A B) (i : Nat) : B.cell? ⟨Bs, i, none⟩ = A.cell? ⟨Bs, i, none⟩ := World.cell?_of_block (w := A) h.2
theorem KpB.t {n₀ Bs : Nat} : ∀ {A B C : World}, KpB n₀ Bs A B → KpB n₀ Bs B C → KpB n₀ Bs A C := fun h k => h.trans k
theorem KpB.b {n₀ Bs : Nat} {w : World} (h : n₀ ≤ w.heap.size) (hB : Bs < w.heap.size) : ∀ (W : World) (l : Nat) (o o' : Obj), w.heap.size ≤ l → W.heap[l]? = some o → o.isCells = false → o.isWalk = false → KpB n₀ Bs W (W.putObj l o') :=
  fun W l o o' hl ho h1 h2 => ⟨belowK_b h W l o o' hl ho h1 h2, World.putObj_heap_other (by omega)⟩
end Go.Proofs.YtbfljfjjnijigaaGreatDoor
namespace Go.Proofs.YtbfljfjjnijigaaGreatDoor
open Go.RowKit Go.Shelf
attribute [local go_sem] Oper.semAt_some
/-- The k-th list. -/
def gl (xss : List (List Int)) (k : Nat) : List Int := xss.getD k []
/-- The slice of slices at A reads as these lists of integers. -/
def RL (w : World) (A : Option Addr) (xss : List (List Int)) : Prop :=
  ∀ k, k < xss.length → ∃ b off A' c', A = some ⟨b, off, none⟩ ∧ b < w.heap.size ∧ w.cell? ⟨b, off + k, none⟩ = some (.slice A' (gl xss k).length c') ∧ RI w A' (gl xss k) ∧ (A' = none → c' = 0)
end Go.Proofs.YtbfljfjjnijigaaGreatDoor
namespace Go.Proofs.YtbfljfjjnijigaaGreatDoor
open Go.RowKit Go.Lib Go.Sort
/-- A slice's three numbers, and its value. -/
abbrev Slz := Option Addr × Nat × Nat
def sv (t : Slz) : Value := .slice t.1 t.2.1 t.2.2
/-- The slice of slices v is the call's own (from block B on), and so are the lists in it. -/
def OwR (w : World) (B : Nat) (v : Value) (xss : List (List Int)) : Prop :=
  ∃ ts : List Slz, w.ownsRow B 24 1 v ts.length (ts.map sv) ∧ ts.length = xss.length ∧ ∀ i t, ts[i]? = some t → OI w B (sv t) (gl xss i)
theorem OwR.nil (w : World) (B : Nat) : OwR w B (.slice none 0 0) [] := ⟨[], ⟨by simp, Or.inl ⟨rfl, rfl⟩⟩, rfl, fun i t h => by simp at h⟩
theorem ownsRow_below {w w' : World} {B D : Nat} {e : TypeId} {v : Value} {n : Nat} {xs : List Value} (h : w.ownsRow B e 1 v n xs) (hb : Below D w w') (hD : w.heap.size ≤ D) : w'.ownsRow B e 1 v n xs := by
  obtain ⟨h1, h2⟩ := h
  refine ⟨h1, ?_⟩
  rcases h2 with h2 | ⟨g, cap, cur, hv, hg, hh, r⟩
  · exact Or.inl h2
  · exact Or.inr ⟨g, cap, cur, hv, hg, (hb.block g (Nat.lt_of_lt_of_le (Array.getElem?_eq_some_iff.1 hh).1 hD)).trans hh, r⟩
theorem OwR.below {w w' : World} {B D : Nat} {v : Value} {xss : List (List Int)} (h : OwR w B v xss) (hb : Below D w w') (hD : w.heap.size ≤ D) : OwR w' B v xss := by
  obtain ⟨ts, h1, h2, h3⟩ := h
  exact ⟨ts, ownsRow_below h1 hb hD, h2, fun i t ht => (h3 i t ht).below hb hD⟩
theorem OwR.form {w : World} {B : Nat} {v : Value} {xss : List (List Int)} (h : OwR w B v xss) : ∃ A c, v = .slice A xss.length c ∧ RL w A xss := by
  obtain ⟨ts, ⟨h1, h1'⟩, h2, h3⟩ := h
  rcases h1' with ⟨rfl, hn⟩ | ⟨g, cap, cur, rfl, hg, hh, hn, hm, hsz, hcur⟩
  · exact ⟨none, 0, by rw [← h2, hn], fun k hk => absurd hk (by omega)⟩
  · refine ⟨_, cap, by rw [h2], fun k hk => ?_⟩
    have hkt : k < ts.length := by omega
    have ho := h3 k ts[k] (List.getElem?_eq_getElem hkt)
    obtain ⟨A', c', e, hc1, hc2, hR⟩ := ho.form
    have hnil : A' = none → c' = 0 := fun hA => by
      subst hA
      rcases ho.2 with ⟨hv, _⟩ | ⟨g, cap, cur, hv, _⟩
      · rw [e] at hv; injection hv
      · rw [e] at hv; injection hv with hv; cases hv
    refine ⟨g, 0, A', c', rfl, (Array.getElem?_eq_some_iff.1 hh).1, ?_, hR, hnil⟩
    have e2 : cur.toList[k]? = some (sv ts[k]) := by
      have : (cur.toList.take (ts.length * 1))[k]? = some (sv ts[k]) := by rw [hcur, List.getElem?_map, List.getElem?_eq_getElem hkt]; rfl
      rwa [List.getElem?_take, if_pos (by omega)] at this
    rw [← e]
    simp [World.cell?, hh]
    simpa using e2
end Go.Proofs.YtbfljfjjnijigaaGreatDoor
namespace Go.Proofs.YtbfljfjjnijigaaGreatDoor
open Go.RowKit
theorem OI.form_n {w : World} {B n : Nat} {v : Value} {xs : List Int} (h : OI w B v xs) (hn : xs.length = n) : ∃ A c, v = .slice A n c ∧ n ≤ c ∧ RI w A xs ∧ (A = none → c = 0) := by
  subst hn
  obtain ⟨A, c, e, h1, h2, h3⟩ := h.form
  refine ⟨A, c, e, h1, h3, fun hA => ?_⟩
  subst hA
  rcases h.2 with ⟨hv, _⟩ | ⟨g, cap, cur, hv, _⟩
  · rw [e] at hv; injection hv
  · rw [e] at hv; injection hv with hv; cases hv
end Go.Proofs.YtbfljfjjnijigaaGreatDoor
namespace Go.Proofs.YtbfljfjjnijigaaGreatDoor
open Go.RowKit
theorem Gl.decode_len (l : List UInt8) : ((Gl.decode l).getD []).length ≤ l.length := by
  cases h : Gl.decode l with
  | none => simp
  | some L =>
    obtain ⟨_, rfl⟩ := (Gl.decode_iff l L).1 h
    exact (Gl.units_len L).1
def errOf (b : Bool) : Int := if b then 0 else 4
theorem EncPost.form {o : Option (List UInt8)} {w w' : World} {e : Ending} (h : EncPost o w e w') : e = .returned (.tuple #[.string ⟨(o.getD []).toArray⟩, .int .i64 (errOf o.isSome)]) ∧ Below w.heap.size w w' := h
theorem DecPost.form {o : Option (List Int)} {w w' : World} {e : Ending} (h : DecPost o w e w') : Below w.heap.size w w' ∧ ∃ v, OI w' w.heap.size v (o.getD []) ∧ e = .returned (.tuple #[v, .int .i64 (errOf o.isSome)]) := h
end Go.Proofs.YtbfljfjjnijigaaGreatDoor
namespace Go.Proofs.YtbfljfjjnijigaaGreatDoor
open Go.RowKit
theorem errOf_some {α : Type} (x : α) : errOf (some x : Option α).isSome = 0 := rfl
theorem errOf_none {α : Type} : errOf (none : Option α).isSome = 4 := rfl
end Go.Proofs.YtbfljfjjnijigaaGreatDoor
namespace Go.Proofs.YtbfljfjjnijigaaGreatDoor
namespace Nm
/-- Does a blank stand behind another one? p: a blank stands ahead of the list. -/
def dbl : Bool → List Int → Bool
  | _, [] => false
  | p, x :: t => (p && x == 32) || dbl (x == 32) t
/-- Does a blank stand at an end, or behind another one? -/
def blanks (L : List Int) : Bool := L.head? == some 32 || L.getLast? == some 32 || dbl false L
/-- Are all code points common ones? -/
def common (L : List Int) : Bool := L.all fun r => Gl.script r == 0
/-- The error of a string as a name; 0: it is one. -/
def check (l : List UInt8) : Int :=
  if l = [] then 14 else if 40 < l.length then 3
  else match Gl.decode l with
    | none => 4
    | some L => if blanks L || common L then 14 else 0
/-- The code points of a name. -/
def read (l : List UInt8) : List Int := if check l = 0 then (Gl.decode l).getD [] else []
def dbl8 : Bool → List UInt8 → Bool
  | _, [] => false
  | p, x :: t => (p && x == 32) || dbl8 (x == 32) t
theorem dbl8_high {l : List UInt8} (h : ∀ x ∈ l, x ≠ 32) (hne : l ≠ []) (p : Bool) (t : List UInt8) : dbl8 p (l ++ t) = dbl8 false t := by
  induction l generalizing p with
  | nil => exact absurd rfl hne
  | cons x l ih =>
    have hx : (x == 32) = false := by simpa using h x (by simp)
    simp only [List.cons_append, dbl8, hx, Bool.and_false, Bool.false_or]
    cases l with
    | nil => rfl
    | cons y l => exact ih (fun z hz => h z (by simp [hz])) (by simp) _
theorem unit_blank : Gl.unit 32 = [32] := by decide
theorem ofNat_ne {k : Nat} (h : k % 256 ≠ 32) : UInt8.ofNat k ≠ 32 := by
  intro e
  have := congrArg UInt8.toNat e
  simp at this
  omega
theorem unit_other {r : Int} (h : 0 ≤ Gl.script r) (hr : r ≠ 32) : (∀ x ∈ Gl.unit r, x ≠ 32) ∧ Gl.unit r ≠ [] := by
  have hb := Gl.script_bounds h
  unfold Gl.unit
  split
  · refine ⟨fun x hx => ?_, by simp⟩
    simp only [List.mem_singleton] at hx
    subst hx
    exact ofNat_ne (by omega)
  · split
    · refine ⟨fun x hx => ?_, by simp⟩
      simp only [List.mem_cons, List.not_mem_nil, or_false] at hx
      rcases hx with rfl | rfl
      · exact ofNat_ne (by omega)
      · exact ofNat_ne (by omega)
    · refine ⟨fun x hx => ?_, by simp⟩
      simp only [List.mem_cons, List.not_mem_nil, or_false] at hx
      rcases hx with rfl | rfl | rfl
      · exact ofNat_ne (by omega)
      · exact ofNat_ne (by omega)
      · exact ofNat_ne (by omega)
theorem dbl_units : ∀ (L : List Int) (p : Bool), Gl.valid L = true → dbl8 p (Gl.units L) = dbl p L
  | [], p, _ => rfl
  | r :: L, p, h => by
    simp only [Gl.valid, List.all_cons, Bool.and_eq_true, decide_eq_true_eq] at h
    have ih := fun q => dbl_units L q h.2
    simp only [Gl.units, List.flatMap_cons] at ih ⊢
    by_cases hr : r = 32
    · subst hr
      rw [unit_blank]
      simp [dbl8, dbl, ih]
    · have hu := unit_other h.1 hr
      have hrb : (r == 32) = false := by simpa using hr
      rw [dbl8_high hu.1 hu.2, ih]
      simp [dbl, hrb]
theorem pre_iff (x : UInt8) (l : List UInt8) : [32, 32].isPrefixOf (x :: l) = (x == 32 && (l.head? == some 32)) := by
  cases l with
  | nil => simp [List.isPrefixOf]
  | cons y l =>
    simp only [List.isPrefixOf, List.head?_cons, Bool.and_true]
    rw [Bool.eq_iff_iff]
    simp
    constructor
    · rintro ⟨a, b⟩; exact ⟨a.symm, b.symm⟩
    · rintro ⟨a, b⟩; exact ⟨a.symm, b.symm⟩
theorem dbl8_true (l : List UInt8) : dbl8 true l = ((l.head? == some 32) || dbl8 false l) := by
  cases l with
  | nil => rfl
  | cons x l => simp [dbl8]
theorem index_dbl : ∀ l : List UInt8, 0 ≤ Lib.index l [32, 32] ↔ dbl8 false l = true
  | [] => by decide
  | x :: l => by
    have ih := index_dbl l
    have hge := Lib.index_ge l [32, 32]
    have e : Lib.index (x :: l) [32, 32] = if [32, 32].isPrefixOf (x :: l) then 0 else if Lib.index l [32, 32] == -1 then -1 else Lib.index l [32, 32] + 1 := rfl
    have d : dbl8 false (x :: l) = dbl8 (x == 32) l := by simp [dbl8]
    have step : 0 ≤ (if Lib.index l [32, 32] == -1 then -1 else Lib.index l [32, 32] + 1) ↔ dbl8 false l = true := by
      rw [← ih]
      by_cases h1 : Lib.index l [32, 32] = -1
      · rw [h1]; decide
      · rw [if_neg (by simpa using h1)]; omega
    rw [e, d, pre_iff]
    by_cases hx : x = 32
    · subst hx
      rw [beq_self_eq_true, Bool.true_and, dbl8_true]
      cases hh : (l.head? == some 32)
      · rw [if_neg (by decide), Bool.false_or]; exact step
      · simp
    · have hxb : (x == 32) = false := by simpa using hx
      rw [hxb, Bool.false_and, if_neg (by decide)]
      exact step
theorem contains_dbl (l : List UInt8) : Lib.contains l [32, 32] = dbl8 false l := by
  unfold Lib.contains
  rw [Bool.eq_iff_iff, decide_eq_true_eq]
  exact index_dbl l
theorem unit_head {r : Int} (h : 0 ≤ Gl.script r) (t : List UInt8) : ((Gl.unit r ++ t).head? == some 32) = (r == 32) := by
  by_cases hr : r = 32
  · subst hr; rfl
  · obtain ⟨h1, h2⟩ := unit_other h hr
    have hrb : (r == 32) = false := by simpa using hr
    rw [hrb]
    cases hu : Gl.unit r with
    | nil => exact absurd hu h2
    | cons x u =>
      rw [hu] at h1
      simpa using h1 x (by simp)
theorem unit_last {r : Int} (h : 0 ≤ Gl.script r) (t : List UInt8) : ((t ++ Gl.unit r).getLast? == some 32) = (r == 32) := by
  by_cases hr : r = 32
  · subst hr; rw [unit_blank]; simp
  · obtain ⟨h1, h2⟩ := unit_other h hr
    have hrb : (r == 32) = false := by simpa using hr
    rw [hrb, List.getLast?_append]
    cases hg : (Gl.unit r).getLast? with
    | none => exact absurd (List.getLast?_eq_none_iff.1 hg) h2
    | some x => simpa using h1 x (List.mem_of_getLast? hg)
theorem units_head {L : List Int} (h : Gl.valid L = true) : ((Gl.units L).head? == some 32) = (L.head? == some 32) := by
  cases L with
  | nil => rfl
  | cons r L =>
    simp only [Gl.valid, List.all_cons, Bool.and_eq_true, decide_eq_true_eq] at h
    simp only [Gl.units, List.flatMap_cons]
    rw [unit_head h.1]
    simp
theorem units_last {L : List Int} (h : Gl.valid L = true) : ((Gl.units L).getLast? == some 32) = (L.getLast? == some 32) := by
  rcases List.eq_nil_or_concat L with rfl | ⟨M, r, rfl⟩
  · rfl
  · rw [List.concat_eq_append] at h ⊢
    rw [Gl.valid_append] at h
    simp only [Gl.valid, List.all_cons, List.all_nil, Bool.and_eq_true, decide_eq_true_eq] at h
    rw [Gl.units_append]
    have : Gl.units [r] = Gl.unit r := by simp [Gl.units]
    rw [this, unit_last h.2.1]
    simp
/-- What the program asks of the bytes is what the document asks of the code points. -/
theorem blanks_units {L : List Int} (h : Gl.valid L = true) : blanks L = ((Gl.units L).head? == some 32 || (Gl.units L).getLast? == some 32 || Lib.contains (Gl.units L) [32, 32]) := by
  rw [contains_dbl, dbl_units L false h, units_head h, units_last h]
  rfl
end Nm
end Go.Proofs.YtbfljfjjnijigaaGreatDoor
namespace Go.Proofs.YtbfljfjjnijigaaGreatDoor
open Go.RowKit
/-- The library's package variable holds some integer. -/
def MaxOk (w : World) : Prop := ∃ m, w.cell? ⟨1, 0, none⟩ = some (.int .i64 m)
theorem MaxOk.lt {w : World} (h : MaxOk w) : 1 < w.heap.size := by
  obtain ⟨m, h⟩ := h
  simp only [World.cell?] at h
  split at h
  · rename_i hb
    exact (Array.getElem?_eq_some_iff.1 hb).1
  · cases h
theorem MaxOk.below {w w' : World} {B : Nat} (h : MaxOk w) (hb : Below B w w') (hB : w.heap.size ≤ B) : MaxOk w' := by
  have hl := h.lt
  obtain ⟨m, h⟩ := h
  exact ⟨m, (hb.cell (p := ⟨1, 0, none⟩) (by show 1 < B; omega)).trans h⟩
theorem str_toList (s : ByteArray) : s.toList = s.data.toList := by simp [ByteArray.toList_eq]
theorem byte_32 (b : UInt8) : ((b.toNat : Int) == 32) = (some b == some 32) := by
  rw [Bool.eq_iff_iff]
  simp
  constructor
  · intro h; exact UInt8.toNat_inj.1 (by simpa using (by omega : b.toNat = 32))
  · rintro rfl; rfl
theorem byte_first (s : ByteArray) (h : 0 < s.size) : (((s[0]'h).toNat : Int) == 32) = (s.data.toList.head? == some 32) := by
  have e : s.data.toList.head? = some s[0] := by
    rw [List.head?_eq_getElem?]
    have h' : 0 < s.data.toList.length := h
    rw [List.getElem?_eq_getElem h']
    rfl
  rw [e, byte_32]
theorem byte_last (s : ByteArray) (h : 0 < s.size) : (((s[s.size - 1]'(by omega)).toNat : Int) == 32) = (s.data.toList.getLast? == some 32) := by
  have e : s.data.toList.getLast? = some (s[s.size - 1]'(by omega)) := by
    rw [List.getLast?_eq_getElem?]
    have h' : s.size - 1 < s.data.toList.length := by show s.size - 1 < s.size; omega
    rw [show s.data.toList.length - 1 = s.size - 1 from rfl, List.getElem?_eq_getElem h']
    rfl
  rw [e, byte_32]
/-- A list and an error, the list the call's own. -/
def KeyPost (L : List Int) (er : Int) (w : World) (e : Ending) (w' : World) : Prop :=
  Below w.heap.size w w' ∧ ∃ v, OI w' w.heap.size v L ∧ e = .returned (.tuple #[v, .int .i64 er])
theorem KeyPost.err {L : List Int} {er er' : Int} {w w' : World} (hb : Below w.heap.size w w') (h1 : L = []) (h2 : er = er') : KeyPost L er w (.returned (.tuple #[.slice none 0 0, .int .i64 er'])) w' := by
  subst h1
  subst h2
  exact ⟨hb, _, OI.nil _ _, rfl⟩
theorem Nm.check_long {l : List UInt8} (h : 40 < l.length) : Nm.check l = 3 := by
  unfold Nm.check
  rw [if_neg (by intro e; rw [e] at h; simp at h), if_pos h]
theorem Nm.check_none {l : List UInt8} (h1 : l ≠ []) (h2 : l.length ≤ 40) (h : Gl.decode l = none) : Nm.check l = 4 := by
  unfold Nm.check
  rw [if_neg h1, if_neg (by omega), h]
theorem Nm.check_some {l : List UInt8} {L : List Int} (h1 : l ≠ []) (h2 : l.length ≤ 40) (h : Gl.decode l = some L) : Nm.check l = if Nm.blanks L || Nm.common L then 14 else 0 := by
  unfold Nm.check
  rw [if_neg h1, if_neg (by omega), h]
theorem Nm.read_err {l : List UInt8} (h : Nm.check l ≠ 0) : Nm.read l = [] := by unfold Nm.read; rw [if_neg h]
theorem contains_k (s : ByteArray) (m : Int) (w : World) (hs : s.size < 4294967281) (hm : w.cell? ⟨1, 0, none⟩ = some (.int .i64 m)) :
    Calls Tryz.prog 79 #[.string s, .string ⟨#[32, 32]⟩] w fun e w' => e = .returned (.bool (Lib.contains s.data.toList [32, 32])) ∧ w = w' :=
  (Tryz.strings_Contains s _ m w hs hm).mono fun _ _ h => ⟨h.1, h.2.symm⟩
set_option maxHeartbeats 4000000 in
theorem read_any (s : ByteArray) (w : World) (ht : Gl.Tab w) (hm : MaxOk w) (hs : s.size ≤ 1000000000000) :
    Calls Tryz.prog 54 #[.string s] w (KeyPost (Nm.read s.data.toList) (Nm.check s.data.toList) w) := by
  go_enter Tryz.func54, Tryz.ntmps54
  by_cases h0 : s = ⟨#[]⟩
  · subst h0
    go_wp2_with fail
    go_ret2
    exact ⟨Below.refl _ _, _, OI.nil _ _, rfl⟩
  have h0d : s.data.toList ≠ [] := fun e => h0 (by cases s with | mk d => simp at e; subst e; rfl)
  have h0s : s.size ≠ 0 := fun e => h0d (List.length_eq_zero_iff.1 e)
  have h0b : s.toList.isEmpty = false := by rw [str_toList]; simpa using h0d
  by_cases hl : 40 < s.size
  · go_wp2_with fail
    go_ret2
    have e : Nm.check s.data.toList = 3 := Nm.check_long (by simpa using hl)
    exact KeyPost.err (Below.refl _ _) (Nm.read_err (by rw [e]; decide)) e
  go_wp2_with (go_at_call 78; refine (gdecode_any _ _ ht (by omega)).mono ?_)
  intro e w1 hp1
  obtain ⟨hb1, v1, ho1, rfl⟩ := hp1.form
  have ht1 := ht.below hb1 (Nat.le_refl _)
  have hm1 := hm.below hb1 (Nat.le_refl _)
  have hl2 : s.data.toList.length ≤ 40 := by show s.size ≤ 40; omega
  obtain ⟨o1, e1⟩ : ∃ o, Gl.decode s.data.toList = o := ⟨_, rfl⟩
  have E1 := Lib.hid e1
  rw [e1] at ho1
  rw [e1]
  clear e1 hp1
  cases o1 with
  | none =>
    rw [errOf_none]
    have hck := Nm.check_none h0d hl2 E1.out
    go_wp2_with fail
    go_ret2
    exact KeyPost.err hb1 (Nm.read_err (by rw [hck]; decide)) hck
  | some L =>
  rw [errOf_some]
  replace ho1 : OI w1 w.heap.size v1 L := ho1
  obtain ⟨nL, hnL⟩ : ∃ n, L.length = n := ⟨_, rfl⟩
  obtain ⟨A1, c1, rfl, _, hR1, _⟩ := ho1.form_n hnL
  have hck := Nm.check_some h0d hl2 E1.out
  obtain ⟨hv, hu⟩ := (Gl.decode_iff _ _).1 E1.out
  have hbl := Nm.blanks_units hv
  rw [← hu] at hbl
  clear hu
  obtain ⟨m, hmm⟩ := hm1
  have hsz : s.size < 4294967281 := by omega
  have hp0 : 0 < s.size := by omega
  have hn40 : nL ≤ 40 := by rw [← hnL]; have := Gl.decode_len s.data.toList; rw [E1.out] at this; exact Nat.le_trans this hl2
  have f0 : (((s[0]'hp0).toNat : Int) == 32) = (s.data.toList.head? == some 32) := byte_first s hp0
  have f1 : (((s[s.size - 1]'(by omega)).toNat : Int) == 32) = (s.data.toList.getLast? == some 32) := byte_last s hp0
  rcases Bool.eq_false_or_eq_true (s.data.toList.head? == some 32) with g0 | g0
  · have f0' := f0.trans g0
    have hB : Nm.check s.data.toList = 14 := by rw [hck, hbl, g0]; rfl
    clear f0 f1 hck hbl
    go_wp2_with fail
    go_ret2
    exact KeyPost.err hb1 (Nm.read_err (by rw [hB]; decide)) hB
  have f0' := f0.trans g0
  rcases Bool.eq_false_or_eq_true (s.data.toList.getLast? == some 32) with g1 | g1
  · have f1' := f1.trans g1
    have hB : Nm.check s.data.toList = 14 := by rw [hck, hbl, g0, g1]; rfl
    clear f0 f1 hck hbl
    go_wp2_with fail
    go_ret2
    exact KeyPost.err hb1 (Nm.read_err (by rw [hB]; decide)) hB
  have f1' := f1.trans g1
  clear f0 f1
  rcases Bool.eq_false_or_eq_true (Lib.contains s.data.toList [32, 32]) with g2 | g2
  · have hB : Nm.check s.data.toList = 14 := by rw [hck, hbl, g0, g1, g2]; rfl
    clear hck hbl
    go_wp2_with (go_at_call 79; refine (contains_k s m _ hsz hmm).mono ?_; first | rintro e w' rfl rfl | rintro e w' ⟨rfl, rfl⟩)
    go_ret2
    exact KeyPost.err hb1 (Nm.read_err (by rw [hB]; decide)) hB
  have hck2 : Nm.check s.data.toList = if Nm.common L then 14 else 0 := by rw [hck, hbl, g0, g1, g2]; rfl
  have HCK := Lib.hid hck2
  clear hck hbl hck2
  go_wp2_with (go_at_call 79; refine (contains_k s m _ hsz hmm).mono ?_; first | rintro e w' rfl rfl | rintro e w' ⟨rfl, rfl⟩)
  go_loopw [2, 5, 36] (fun lv rv iv wr => ∃ i : Nat, lv = .slice A1 nL c1 ∧ iv = .int .i64 i ∧ i ≤ nL ∧ Hid (∀ k, k < i → Gl.script (gi L k) = 0) ∧ Below w1.heap.size w1 wr) (fun _ _ iv _ => nL - (intOf iv).toNat)
  case atStart => exact ⟨0, rfl, rfl, by omega, fun k hk => absurd hk (by omega), Below.refl _ _⟩
  case round =>
    obtain ⟨i, rfl, rfl, hi, hall, hbw⟩ := hrel
    by_cases hlt : i < nL
    · obtain ⟨b1, o1, rfl, hbb1, hc1⟩ := hR1 i (by omega)
      have c1 := (hbw.cell (p := ⟨b1, o1 + i, none⟩) hbb1).trans (hc1 i (by omega))
      clear hc1
      have htr := ht1.below hbw (Nat.le_refl _)
      have hbr : Below w.heap.size w wr := hb1.trans (hbw.mono hb1.size)
      by_cases hsc : Gl.script (gi L i) = 0
      · have hsb : (Gl.script (gi L i) != 0) = false := by simp [hsc]
        have HS := Lib.hid hsc
        clear hsc
        go_wp2_with (go_at_call 80; refine (gscript_any _ _ htr).mono ?_; first | rintro e w2 rfl hb2 | rintro e w2 ⟨rfl, hb2⟩)
        go_roundw
        case rel => exact ⟨i + 1, rfl, by go_num, by omega, fun k hk => (Nat.lt_or_eq_of_le (Nat.le_of_lt_succ hk)).elim (hall.out k) (fun e => by rw [e]; exact HS.out), hbw.trans (hb2.mono hbw.size)⟩
        case measure => simp [intOf]; omega
      · have hsb : (Gl.script (gi L i) != 0) = true := by simp [hsc]
        have hcm : Nm.common L = false := by
          unfold Nm.common
          rw [List.all_eq_false]
          have hlt' : i < L.length := by omega
          refine ⟨L[i], List.getElem_mem hlt', ?_⟩
          rw [← gi_eq hlt']
          simpa using hsc
        have hK : Nm.check s.data.toList = 0 := by rw [HCK.out, hcm]; rfl
        have hRd : Nm.read s.data.toList = L := by unfold Nm.read; rw [if_pos hK, E1.out]; rfl
        have HK := Lib.hid hK
        have HR := Lib.hid hRd
        clear hK hRd hcm
        go_wp2_with (go_at_call 80; refine (gscript_any _ _ htr).mono ?_; first | rintro e w2 rfl hb2 | rintro e w2 ⟨rfl, hb2⟩)
        go_ret2
        exact ⟨hbr.trans (hb2.mono hbr.size), _, by rw [HR.out]; exact ho1.below (hbw.trans (hb2.mono hbw.size)) (Nat.le_refl _), by rw [HK.out]; rfl⟩
    · have hcm : Nm.common L = true := by
        unfold Nm.common
        rw [List.all_eq_true]
        intro x hx
        obtain ⟨k, hk, rfl⟩ := List.mem_iff_getElem.1 hx
        have := hall.out k (by omega)
        rw [gi_eq hk] at this
        simpa using this
      have hK : Nm.check s.data.toList = 14 := by rw [HCK.out, hcm]; rfl
      go_wp2_with fail
      go_ret2
      exact KeyPost.err (hb1.trans (hbw.mono hb1.size)) (Nm.read_err (by rw [hK]; decide)) hK
end Go.Proofs.YtbfljfjjnijigaaGreatDoor
namespace Go.Proofs.YtbfljfjjnijigaaGreatDoor
open Go.RowKit
theorem ncheck_any (s : ByteArray) (w : World) (ht : Gl.Tab w) (hm : MaxOk w) (hs : s.size ≤ 1000000000000) :
    Calls Tryz.prog 35 #[.string s] w fun e w' => e = .returned (.int .i64 (Nm.check s.data.toList)) ∧ Below w.heap.size w w' := by
  go_enter Tryz.func35, Tryz.ntmps35
  go_wp2_with (go_at_call 54; refine (read_any _ _ ht hm hs).mono ?_)
  rintro e w1 ⟨hb1, v1, ho1, rfl⟩
  go_wp2_with fail
  go_ret
  exact ⟨rfl, hb1⟩
end Go.Proofs.YtbfljfjjnijigaaGreatDoor
