/-
  Names: Check, Cmp, Begins and their references (joined by shake.py out of the texts of layers 6 and 7).
-/
import Derived.Test.YtcbobceggjndlaaGreatDoorBase
import Derived.Test.YtcbobceggjndlaaGreatDoorPlain
import Derived.Lib.TrimUEq
import Derived.Laws.IdiomStrings
import Derived.Test.YtcbobceggjndlaaGreatDoorBaseB
import Derived.Test.YtcbobceggjndlaaGreatDoorShelf
import Derived.Deep.RegionHeld3
import Derived.RangeFuncNested
import Derived.RangeFuncBound
import Derived.RangeFuncCalls
import Derived.RangeFuncLeaves
import Derived.RangeFuncFrom
import Derived.Shelf.Abstract
import Derived.Shelf.RegionOpen
import Derived.OwnWalkIn
import Derived.TacticsInMore
import Derived.LoopNIn
import Derived.LoopIn
import Derived.Laws.EntriesVeiled
import Derived.Deep.DeepCutAuto
import Derived.RegionTactic
import Derived.Deep.RegionWith
import Derived.Lib.AppendZerosOnto
import Derived.Lib.SliceRun
import Derived.Lib.Walk
import Derived.Laws.AppendOwnNone
import Derived.Lib.RowBridge
import Derived.Lib.IndexMore
import Derived.Lib.Small
import Derived.WalkMore
set_option linter.unusedVariables false
set_option linter.unusedSimpArgs false
namespace Go.Proofs.YtcbobceggjndlaaGreatDoor
open Go.RowKit
set_option maxHeartbeats 1000000 in
theorem rscript_any (r : Int) (w : World) :
    Calls Tryz.prog 72 #[.int .i64 r] w fun e w' => e = .returned (.int .i64 (Gl.script r)) ∧ w = w' := by
  go_enter Tryz.func72, Tryz.ntmps72
  go_wp2
  all_goals go_ret
  all_goals exact ⟨ret_int (by unfold Gl.script; first | omega | (simp at *; omega)), rfl⟩
theorem idx (k : Nat) (hk : k < 13) (w : World) : (Instr.index 131 (.agg Gl.tab) (.int .i64 (k : Int))).run Tryz.prog w = .ok (.agg #[.int .i32 (Gl.lo k), .int .i32 (Gl.hi k), .int .i64 (Gl.sc k)]) w := by
  obtain rfl | rfl | rfl | rfl | rfl | rfl | rfl | rfl | rfl | rfl | rfl | rfl | rfl : k = 0 ∨ k = 1 ∨ k = 2 ∨ k = 3 ∨ k = 4 ∨ k = 5 ∨ k = 6 ∨ k = 7 ∨ k = 8 ∨ k = 9 ∨ k = 10 ∨ k = 11 ∨ k = 12 := by omega
  all_goals kernel_rfl
theorem tabsz : (Tryz.prog.info? 131).map (·.size) = some Gl.tab.size := by kernel_rfl
set_option maxHeartbeats 1000000 in
theorem gscript_any (r : Int) (w : World) (ht : Gl.Tab w) :
    Calls Tryz.prog 67 #[.int .i64 r] w fun e w' => e = .returned (.int .i64 (Gl.script r)) ∧ Below w.heap.size w w' := by
  obtain ⟨t, fr, hg⟩ := ht
  by_cases h0 : r < 0
  · go_enter Tryz.func67, Tryz.ntmps67
    go_wp2
    go_ret
    exact ⟨ret_int (by unfold Gl.script; omega), Below.refl _ _⟩
  by_cases h1 : 1114111 < r
  · go_enter Tryz.func67, Tryz.ntmps67
    go_wp2
    go_ret
    exact ⟨ret_int (by unfold Gl.script; omega), Below.refl _ _⟩
  go_enter Tryz.func67, Tryz.ntmps67
  go_wp2_with (refine wpList_load_row rfl 131 _ rfl 0 rfl t _ fr _ hg Tryz.underlying131 rfl tabsz ?_)
  go_loopw [15] (fun i wr => ∃ k : Nat, k ≤ 13 ∧ i = .int .i64 k ∧ Hid (∀ j, j < k → ¬ (Gl.lo j ≤ r ∧ r ≤ Gl.hi j)) ∧ Below w.heap.size w wr) (fun i _ => 13 - (intOf i).toNat)
  case atStart => exact ⟨0, by omega, rfl, fun j hj => absurd hj (by omega), Below.refl _ _⟩
  case round =>
    obtain ⟨k, hk, rfl, hn, hb⟩ := hrel
    by_cases hlt : k < 13
    · have hi := fun W => idx k hlt W
      have hsz := hb.size
      by_cases h2 : Gl.lo k ≤ r
      · by_cases h3 : r ≤ Gl.hi k
        · go_wp2
          go_ret
          exact ⟨ret_int (Gl.scan_hit r k hlt h2 h3), hb.alloc hsz _⟩
        · go_wp2
          go_roundw
          case rel => exact ⟨k + 1, by omega, by go_num, no_snoc hn.out (fun h => h3 h.2), hb.alloc hsz _⟩
          case measure => simp [intOf]; omega
      · go_wp2
        go_roundw
        case rel => exact ⟨k + 1, by omega, by go_num, no_snoc hn.out (fun h => h2 h.1), hb.alloc hsz _⟩
        case measure => simp [intOf]; omega
    · obtain rfl : k = 13 := by omega
      go_wp2
      go_ret
      exact ⟨ret_int (Gl.scan_miss r hn.out), hb⟩
set_option maxHeartbeats 4000000 in
theorem rfold_any (r : Int) (w : World) (h1 : -9223372036854775808 ≤ r) (h2 : r ≤ 9223372036854775807) :
    Calls Tryz.prog 97 #[.int .i64 r] w fun e w' => e = .returned (.int .i64 (Gl.fold r)) ∧ w = w' := by
  go_enter Tryz.func97, Tryz.ntmps97
  go_wp2
  all_goals go_ret
  all_goals exact ⟨ret_int (by unfold Gl.fold; first | omega | (simp at *; omega)), rfl⟩
theorem within_any (a b r : Int) (p : Addr) (w : World) (hc : w.cell? p = some (.int .i64 r)) (ha : 0 ≤ a) (ha' : a ≤ 100000) (hb : 0 ≤ b) (hb' : b ≤ 100000) :
    Calls Tryz.prog 115 #[.int .i32 a, .int .i32 b, .pointer (some p)] w fun e w' => e = .returned (.bool (decide (a ≤ r) && decide (r ≤ b))) ∧ w = w' := by
  by_cases h1 : a ≤ r
  · have h1' : decide (a ≤ r) = true := by simpa using h1
    go_enter Tryz.func115, Tryz.ntmps115
    go_wp2
    go_ret
    exact ⟨ret_bool (by simp [h1]), rfl⟩
  · have h1' : decide (a ≤ r) = false := by simpa using h1
    go_enter Tryz.func115, Tryz.ntmps115
    go_wp2
    go_ret
    exact ⟨ret_bool (by simp), rfl⟩
set_option maxHeartbeats 4000000 in
theorem gfold_any (r : Int) (w : World) (h1 : -9223372036854775808 ≤ r) (h2 : r ≤ 9223372036854775807) :
    Calls Tryz.prog 92 #[.int .i64 r] w fun e w' => e = .returned (.int .i64 (Gl.fold r)) ∧ Below w.heap.size w w' := by
  have hb : Below w.heap.size w (w.alloc (.cells #[.int .i64 r] 3)) := (Below.refl _ _).alloc (Nat.le_refl _) _
  have HB := Lib.hid hb
  clear hb
  go_enter Tryz.func92, Tryz.ntmps92
  go_wp2_with (go_at_call 115; refine (within_any _ _ r _ _ (by simp [go_sem]) (by omega) (by omega) (by omega) (by omega)).mono ?_; rintro e w' ⟨rfl, rfl⟩)
  all_goals go_ret
  all_goals exact ⟨ret_int (by unfold Gl.fold; first | omega | (simp at *; omega)), HB.out⟩
end Go.Proofs.YtcbobceggjndlaaGreatDoor
namespace Go.Proofs.YtcbobceggjndlaaGreatDoor
namespace Gl
/-- The bytes of a code point from 0 to 65535. -/
def unit (r : Int) : List UInt8 :=
  if r < 128 then [UInt8.ofNat r.toNat]
  else if r < 2048 then [UInt8.ofNat (192 + r.toNat / 64), UInt8.ofNat (128 + r.toNat % 64)]
  else [UInt8.ofNat (224 + r.toNat / 4096), UInt8.ofNat (128 + r.toNat / 64 % 64), UInt8.ofNat (128 + r.toNat % 64)]
/-- The number that one, two or three bytes would represent. -/
def value : List UInt8 → Int
  | [a] => a.toNat
  | [a, b] => a.toNat % 32 * 64 + b.toNat % 64
  | a :: b :: c :: _ => a.toNat % 16 * 4096 + b.toNat % 64 * 64 + c.toNat % 64
  | [] => 0
/-- Do the first n bytes encode a code point with a script? -/
def fits (n : Nat) (l : List UInt8) : Bool := decide (n ≤ l.length) && decide (0 ≤ script (value (l.take n))) && decide (unit (value (l.take n)) = l.take n)
/-- The code point with a script at the head of a list of bytes. -/
def first (l : List UInt8) : Option Int :=
  if fits 1 l then some (value (l.take 1)) else if fits 2 l then some (value (l.take 2)) else if fits 3 l then some (value (l.take 3)) else none
/-- The code points of a list of bytes. -/
def decodeN : Nat → List UInt8 → Option (List Int)
  | 0, l => if l = [] then some [] else none
  | f + 1, l => if l = [] then some [] else match first l with
    | none => none
    | some r => (decodeN f (l.drop (unit r).length)).map (r :: ·)
def decode (l : List UInt8) : Option (List Int) := decodeN l.length l
/-- The bytes of a list of code points. -/
def units (L : List Int) : List UInt8 := L.flatMap unit
def valid (L : List Int) : Bool := L.all fun r => decide (0 ≤ script r)
theorem unit_len (r : Int) : (unit r).length = if r < 128 then 1 else if r < 2048 then 2 else 3 := by
  unfold unit; split
  · rfl
  · split <;> rfl
theorem unit_len_bd (r : Int) : 1 ≤ (unit r).length ∧ (unit r).length ≤ 3 := by
  rw [unit_len]
  repeat' split
  all_goals omega
theorem unit_nat1 {r : Int} (h0 : 0 ≤ r) (h : r < 128) : ∃ a, unit r = [a] ∧ (a.toNat : Int) = r := by
  refine ⟨_, by unfold unit; rw [if_pos h], ?_⟩
  rw [UInt8.toNat_ofNat']; omega
theorem unit_nat2 {r : Int} (h0 : 128 ≤ r) (h : r < 2048) : ∃ a b, unit r = [a, b] ∧ a.toNat = 192 + r.toNat / 64 ∧ b.toNat = 128 + r.toNat % 64 := by
  refine ⟨_, _, by unfold unit; rw [if_neg (by omega), if_pos h], ?_, ?_⟩ <;> rw [UInt8.toNat_ofNat'] <;> omega
theorem unit_nat3 {r : Int} (h0 : 2048 ≤ r) (h : r ≤ 65535) : ∃ a b c, unit r = [a, b, c] ∧ a.toNat = 224 + r.toNat / 4096 ∧ b.toNat = 128 + r.toNat / 64 % 64 ∧ c.toNat = 128 + r.toNat % 64 := by
  refine ⟨_, _, _, by unfold unit; rw [if_neg (by omega), if_neg (by omega)], ?_, ?_, ?_⟩ <;> rw [UInt8.toNat_ofNat'] <;> omega
theorem value_unit {r : Int} (h0 : 0 ≤ r) (h : r ≤ 65535) : value (unit r) = r := by
  by_cases h1 : r < 128
  · obtain ⟨a, e, ha⟩ := unit_nat1 h0 h1
    rw [e]; simp [value, ha]
  by_cases h2 : r < 2048
  · obtain ⟨a, b, e, ha, hb⟩ := unit_nat2 (by omega) h2
    rw [e]; simp only [value, ha, hb]; omega
  · obtain ⟨a, b, c, e, ha, hb, hc⟩ := unit_nat3 (by omega) h
    rw [e]; simp only [value, ha, hb, hc]; omega
theorem fits_iff {n : Nat} {l : List UInt8} : fits n l = true ↔ n ≤ l.length ∧ 0 ≤ script (value (l.take n)) ∧ unit (value (l.take n)) = l.take n := by
  unfold fits; simp [and_assoc]
theorem fits_len {n : Nat} {l : List UInt8} (h : fits n l = true) : (unit (value (l.take n))).length = n := by
  obtain ⟨h1, _, h2⟩ := fits_iff.1 h
  rw [h2, List.length_take]; omega
theorem first_some {l : List UInt8} {r : Int} (h : first l = some r) : 0 ≤ script r ∧ ∃ t, l = unit r ++ t := by
  unfold first at h
  have key : ∀ n, fits n l = true → 0 ≤ script (value (l.take n)) ∧ ∃ t, l = unit (value (l.take n)) ++ t := fun n hn => by
    obtain ⟨_, h2, h3⟩ := fits_iff.1 hn
    exact ⟨h2, l.drop n, by rw [h3, List.take_append_drop]⟩
  split at h
  · rename_i h1; injection h with h; subst h; exact key 1 h1
  split at h
  · rename_i h1; injection h with h; subst h; exact key 2 h1
  split at h
  · rename_i h1; injection h with h; subst h; exact key 3 h1
  · cases h
theorem fits_unit {r : Int} (h : 0 ≤ script r) (t : List UInt8) : fits (unit r).length (unit r ++ t) = true := by
  have hb := script_bounds h
  rw [fits_iff]
  rw [List.take_left, value_unit (by omega) (by omega)]
  exact ⟨by simp, h, rfl⟩
theorem first_unit {r : Int} (h : 0 ≤ script r) (t : List UInt8) : first (unit r ++ t) = some r := by
  have hb := script_bounds h
  have hf := fits_unit h t
  have hv : value ((unit r ++ t).take (unit r).length) = r := by rw [List.take_left, value_unit (by omega) (by omega)]
  by_cases h1 : r < 128
  · have hl : (unit r).length = 1 := by rw [unit_len, if_pos h1]
    rw [hl] at hf hv
    unfold first; rw [if_pos hf, hv]
  by_cases h2 : r < 2048
  · have hl : (unit r).length = 2 := by rw [unit_len, if_neg h1, if_pos h2]
    have n1 : ¬ fits 1 (unit r ++ t) = true := fun hn => by
      have hn2 := fits_len hn
      obtain ⟨a, b, e, ha, hb'⟩ := unit_nat2 (r := r) (by omega) h2
      rw [e] at hn2
      simp only [List.cons_append, List.take_succ_cons, List.take_zero, value] at hn2
      rw [unit_len, if_neg (by omega)] at hn2
      split at hn2 <;> omega
    rw [hl] at hf hv
    unfold first; rw [if_neg n1, if_pos hf, hv]
  · have hl : (unit r).length = 3 := by rw [unit_len, if_neg h1, if_neg h2]
    obtain ⟨a, b, c, e, ha, hb', hc⟩ := unit_nat3 (r := r) (by omega) (by omega)
    have n1 : ¬ fits 1 (unit r ++ t) = true := fun hn => by
      have hn2 := fits_len hn
      rw [e] at hn2
      simp only [List.cons_append, List.take_succ_cons, List.take_zero, value] at hn2
      rw [unit_len, if_neg (by omega)] at hn2
      split at hn2 <;> omega
    have n2 : ¬ fits 2 (unit r ++ t) = true := fun hn => by
      have hn2 := fits_len hn
      obtain ⟨_, _, hn3⟩ := fits_iff.1 hn
      rw [e] at hn2 hn3
      simp only [List.cons_append, List.take_succ_cons, List.take_zero, value] at hn2 hn3
      rw [unit_len] at hn2
      have q1 : ¬ (↑a.toNat % 32 * 64 + ↑b.toNat % 64 : Int) < 128 := fun hh => by rw [if_pos hh] at hn2; omega
      rw [if_neg q1] at hn2
      have q2 : (↑a.toNat % 32 * 64 + ↑b.toNat % 64 : Int) < 2048 := by
        by_cases hh : (↑a.toNat % 32 * 64 + ↑b.toNat % 64 : Int) < 2048
        · exact hh
        · rw [if_neg hh] at hn2; omega
      obtain ⟨a', b', e', ha2, hb2⟩ := unit_nat2 (by omega) q2
      rw [e'] at hn3
      injection hn3 with e1 e2
      rw [e1] at ha2
      omega
    rw [hl] at hf hv
    unfold first; rw [if_neg n1, if_neg n2, if_pos hf, hv]
/-- The decoder of Go's range over a string, where its code point has a script. -/
theorem go_some {l : List UInt8} (h : 0 < l.length) (hs : 0 ≤ script ((Lib.decodeL l).1 : Int)) : first l = some ((Lib.decodeL l).1 : Int) ∧ (Lib.decodeL l).2 = (unit ((Lib.decodeL l).1 : Int)).length := by
  have key : ∀ c : Nat, 0 ≤ script (c : Int) → ∀ t, l = unit (c : Int) ++ t → first l = some (c : Int) := fun c hc t e => by rw [e]; exact first_unit hc t
  have hbd := script_bounds hs
  rw [Lib.decodeL_N] at hs hbd ⊢
  unfold Lib.decodeN at hs hbd ⊢
  match l, h with
  | a :: l', _ =>
    simp only [List.length_cons, List.getD_cons_zero, List.getD_cons_succ] at hs hbd key ⊢
    by_cases h1 : a.toNat < 128
    · simp only [h1, if_true] at hs hbd ⊢
      obtain ⟨a', e, ha⟩ := unit_nat1 (r := (a.toNat : Int)) (by omega) (by omega)
      have ea : a' = a := UInt8.toNat.inj (by omega)
      subst ea
      exact ⟨key _ hs l' (by rw [e]; rfl), by rw [e]; rfl⟩
    simp only [h1, if_false] at hs hbd ⊢
    by_cases h2 : a.toNat / 32 = 6 ∧ (1 < l'.length + 1 ∧ (l'.getD 0 0).toNat / 64 = 2)
    · simp only [h2, and_self, if_true] at hs hbd ⊢
      match l', h2 with
      | b :: l'', h2 =>
        simp only [List.getD_cons_zero] at h2 hs hbd key ⊢
        by_cases h3 : a.toNat % 32 * 64 + b.toNat % 64 ≥ 128
        · simp only [h3, if_true] at hs hbd ⊢
          obtain ⟨a', b', e, ha, hb⟩ := unit_nat2 (r := ((a.toNat % 32 * 64 + b.toNat % 64 : Nat) : Int)) (by omega) (by omega)
          have hbl := b.toNat_lt
          have ea : a' = a := UInt8.toNat.inj (by omega)
          have eb : b' = b := UInt8.toNat.inj (by omega)
          subst ea eb
          exact ⟨key _ hs l'' (by rw [e]; rfl), by rw [e]; rfl⟩
        · simp only [h3, if_false] at hbd; omega
      | [], h2 => simp at h2
    rw [if_neg h2] at hs hbd ⊢
    by_cases h4 : a.toNat / 16 = 14 ∧ (1 < l'.length + 1 ∧ (l'.getD 0 0).toNat / 64 = 2) ∧ (2 < l'.length + 1 ∧ (l'.getD 1 0).toNat / 64 = 2)
    · rw [if_pos h4] at hs hbd ⊢
      obtain ⟨b, c, l'', rfl⟩ : ∃ b c l'', l' = b :: c :: l'' := by
        cases l' with
        | nil => simp at h4
        | cons b l1 =>
          cases l1 with
          | nil => simp at h4
          | cons c l2 => exact ⟨b, c, l2, rfl⟩
      simp only [List.getD_cons_zero, List.getD_cons_succ] at h4 hs hbd key ⊢
      generalize hR : a.toNat % 16 * 4096 + b.toNat % 64 * 64 + c.toNat % 64 = R at *
      by_cases h5 : R ≥ 2048 ∧ (R < 55296 ∨ (57344 ≤ R ∧ R ≤ 1114111))
      · rw [if_pos h5] at hs hbd ⊢
        simp only at hs hbd ⊢
        obtain ⟨a', b', c', e, ha, hb, hc⟩ := unit_nat3 (r := (R : Int)) (by omega) (by omega)
        have hal := a.toNat_lt
        have hbl := b.toNat_lt
        have hcl := c.toNat_lt
        have ea : a' = a := UInt8.toNat.inj (by omega)
        have eb : b' = b := UInt8.toNat.inj (by omega)
        have ec : c' = c := UInt8.toNat.inj (by omega)
        subst ea eb ec
        exact ⟨key _ hs l'' (by rw [e]; rfl), by rw [e]; rfl⟩
      · rw [if_neg h5] at hbd
        simp only at hbd; omega
    rw [if_neg h4] at hs hbd ⊢
    split at hbd
    · split at hbd
      · simp only at hbd; omega
      · simp only at hbd; omega
    · simp only at hbd; omega
/-- The decoder of Go's range over a string, where it stands at a code point with a script. -/
theorem go_unit {r : Int} (h : 0 ≤ script r) (t : List UInt8) : Lib.decodeL (unit r ++ t) = (r.toNat, (unit r).length) := by
  have hb := script_bounds h
  rw [Lib.decodeL_N]
  unfold Lib.decodeN
  by_cases h1 : r < 128
  · obtain ⟨a, e, ha⟩ := unit_nat1 (r := r) (by omega) h1
    rw [e]
    simp only [List.cons_append, List.getD_cons_zero]
    rw [if_pos (by omega), show a.toNat = r.toNat by omega]; rfl
  by_cases h2 : r < 2048
  · obtain ⟨a, b, e, ha, hb'⟩ := unit_nat2 (r := r) (by omega) h2
    rw [e]
    simp only [List.cons_append, List.getD_cons_zero, List.getD_cons_succ, List.length_cons]
    rw [if_neg (by omega), if_pos (by omega), if_pos (by omega), show a.toNat % 32 * 64 + b.toNat % 64 = r.toNat by omega]; rfl
  · obtain ⟨a, b, c, e, ha, hb', hc⟩ := unit_nat3 (r := r) (by omega) (by omega)
    rw [e]
    simp only [List.cons_append, List.getD_cons_zero, List.getD_cons_succ, List.length_cons]
    rw [if_neg (by omega), if_neg (by omega), if_pos (by omega), if_pos (by omega), show a.toNat % 16 * 4096 + b.toNat % 64 * 64 + c.toNat % 64 = r.toNat by omega]; rfl
theorem go_none {l : List UInt8} (hs : script ((Lib.decodeL l).1 : Int) < 0) : first l = none := by
  cases hf : first l with
  | none => rfl
  | some r =>
    obtain ⟨h0, t, e⟩ := first_some hf
    have hb := script_bounds h0
    rw [e, go_unit h0] at hs
    simp only at hs
    rw [show ((r.toNat : Nat) : Int) = r by omega] at hs
    omega
theorem decodeN_iff : ∀ (f : Nat) (l : List UInt8) (L : List Int), l.length ≤ f → (decodeN f l = some L ↔ valid L = true ∧ l = units L)
  | 0, l, L, h => by
    have hl : l = [] := List.length_eq_zero_iff.1 (by omega)
    subst hl
    simp only [decodeN, if_true]
    constructor
    · intro h; injection h with h; subst h; exact ⟨rfl, rfl⟩
    · rintro ⟨h1, h2⟩
      cases L with
      | nil => rfl
      | cons r L =>
        have := (unit_len_bd r).1
        have h3 := congrArg List.length h2
        simp [units] at h3; omega
  | f + 1, l, L, h => by
    by_cases hl : l = []
    · subst hl
      simp only [decodeN, if_true]
      constructor
      · intro h; injection h with h; subst h; exact ⟨rfl, rfl⟩
      · rintro ⟨h1, h2⟩
        cases L with
        | nil => rfl
        | cons r L =>
          have := (unit_len_bd r).1
          have h3 := congrArg List.length h2
          simp [units] at h3; omega
    · have hpos : 0 < l.length := List.length_pos_iff.2 hl
      simp only [decodeN, if_neg hl]
      cases hf : first l with
      | none =>
        constructor
        · intro h; cases h
        · rintro ⟨h1, h2⟩
          cases L with
          | nil => exact absurd h2 hl
          | cons r L =>
            simp only [valid, List.all_cons, Bool.and_eq_true, decide_eq_true_eq] at h1
            rw [h2, show units (r :: L) = unit r ++ units L from rfl, first_unit h1.1] at hf
            cases hf
      | some r =>
        obtain ⟨h0, t, e⟩ := first_some hf
        have hb := (unit_len_bd r).1
        have ht : l.drop (unit r).length = t := by rw [e, List.drop_left]
        have ih := decodeN_iff f t
        have hlen : t.length ≤ f := by have h3 := congrArg List.length e; simp at h3; omega
        simp only [ht]
        constructor
        · intro h
          cases hd : decodeN f t with
          | none => rw [hd] at h; cases h
          | some M =>
            rw [hd] at h
            injection h with h
            subst h
            obtain ⟨v1, v2⟩ := (ih M hlen).1 hd
            refine ⟨?_, ?_⟩
            · simp only [valid, List.all_cons, Bool.and_eq_true, decide_eq_true_eq]; exact ⟨h0, v1⟩
            · rw [e, v2]; rfl
        · rintro ⟨h1, h2⟩
          cases L with
          | nil => exact absurd h2 hl
          | cons r' L =>
            simp only [valid, List.all_cons, Bool.and_eq_true, decide_eq_true_eq] at h1
            have e2 : l = unit r' ++ units L := h2
            have hr : r' = r := by
              rw [e2, first_unit h1.1] at hf
              injection hf
            subst hr
            have ht2 : units L = t := by rw [e] at e2; exact (List.append_cancel_left e2).symm
            rw [(ih L hlen).2 ⟨h1.2, ht2.symm⟩]; rfl
theorem decode_iff (l : List UInt8) (L : List Int) : decode l = some L ↔ valid L = true ∧ l = units L := decodeN_iff l.length l L (Nat.le_refl _)
theorem decodeN_more (f : Nat) (l : List UInt8) (h : l.length ≤ f) : decodeN f l = decode l := by
  have h1 := decodeN_iff f l
  have h2 := decode_iff l
  cases hd : decodeN f l with
  | some L => exact ((h2 L).2 ((h1 L h).1 hd)).symm
  | none =>
    cases hd2 : decode l with
    | none => rfl
    | some L => rw [(h1 L h).2 ((h2 L).1 hd2)] at hd; cases hd
theorem decode_nil : decode [] = some [] := rfl
theorem decode_step {l : List UInt8} (h : 0 < l.length) : decode l = match first l with | none => none | some r => (decode (l.drop (unit r).length)).map (r :: ·) := by
  have hl : l ≠ [] := List.length_pos_iff.1 h
  rw [← decodeN_more (l.length + 1) l (by omega)]
  simp only [decodeN, if_neg hl]
  cases hf : first l with
  | none => rfl
  | some r => simp only; rw [decodeN_more _ _ (by simp)]
theorem units_append (L M : List Int) : units (L ++ M) = units L ++ units M := by simp [units]
theorem valid_append (L M : List Int) : valid (L ++ M) = (valid L && valid M) := by simp [valid]
theorem units_len (L : List Int) : L.length ≤ (units L).length ∧ (units L).length ≤ 3 * L.length := by
  induction L with
  | nil => simp [units]
  | cons r L ih =>
    have := unit_len_bd r
    have e : units (r :: L) = unit r ++ units L := rfl
    rw [e]; simp; omega
end Gl
end Go.Proofs.YtcbobceggjndlaaGreatDoor
namespace Go.Proofs.YtcbobceggjndlaaGreatDoor
open Go.RowKit
theorem wrap_byte (a : UInt8) : wrap64 (a.toNat : Int) = a.toNat := by
  have := a.toNat_lt
  exact IntWalk.wrap64_in _ ⟨by omega, by omega⟩
theorem tmod_nn {a b : Int} (h : 0 ≤ a) : a.tmod b = a % b := Int.tmod_eq_emod_of_nonneg h
theorem val2 (a b : UInt8) : wrap64 (wrap64 ((wrap64 (a.toNat : Int)).tmod 32 * 64) + (wrap64 (b.toNat : Int)).tmod 64) = Gl.value [a, b] := by
  rw [wrap_byte, wrap_byte, tmod_nn (by omega), tmod_nn (by omega)]
  have h1 : wrap64 ((a.toNat : Int) % 32 * 64) = (a.toNat : Int) % 32 * 64 := IntWalk.wrap64_in _ ⟨by omega, by omega⟩
  rw [h1]
  exact IntWalk.wrap64_in _ ⟨by omega, by omega⟩
theorem val3 (a b c : UInt8) : wrap64 (wrap64 (wrap64 ((wrap64 (a.toNat : Int)).tmod 16 * 4096) + wrap64 ((wrap64 (b.toNat : Int)).tmod 64 * 64)) + (wrap64 (c.toNat : Int)).tmod 64) = Gl.value [a, b, c] := by
  rw [wrap_byte, wrap_byte, wrap_byte, tmod_nn (by omega), tmod_nn (by omega), tmod_nn (by omega)]
  have h1 : wrap64 ((a.toNat : Int) % 16 * 4096) = (a.toNat : Int) % 16 * 4096 := IntWalk.wrap64_in _ ⟨by omega, by omega⟩
  have h2 : wrap64 ((b.toNat : Int) % 64 * 64) = (b.toNat : Int) % 64 * 64 := IntWalk.wrap64_in _ ⟨by omega, by omega⟩
  rw [h1, h2]
  have h3 : wrap64 ((a.toNat : Int) % 16 * 4096 + (b.toNat : Int) % 64 * 64) = (a.toNat : Int) % 16 * 4096 + (b.toNat : Int) % 64 * 64 := IntWalk.wrap64_in _ ⟨by omega, by omega⟩
  rw [h3]
  exact IntWalk.wrap64_in _ ⟨by omega, by omega⟩
theorem rvalue1 (a : UInt8) (w : World) :
    Calls Tryz.prog 71 #[.string ⟨#[a]⟩] w fun e w' => e = .returned (.int .i64 (Gl.value [a])) ∧ Below w.heap.size w w' := by
  go_enter Tryz.func71, Tryz.ntmps71
  go_wp2
  go_ret
  exact ⟨ret_int (wrap_byte a), Below.refl _ _⟩
theorem rvalue2 (a b : UInt8) (w : World) :
    Calls Tryz.prog 71 #[.string ⟨#[a, b]⟩] w fun e w' => e = .returned (.int .i64 (Gl.value [a, b])) ∧ Below w.heap.size w w' := by
  go_enter Tryz.func71, Tryz.ntmps71
  go_wp2
  go_quiet (fail)
  go_wp2
  go_ret
  exact ⟨ret_int (val2 a b), below_drewN (Below.refl _ _) _⟩
theorem rvalue3 (a b c : UInt8) (w : World) :
    Calls Tryz.prog 71 #[.string ⟨#[a, b, c]⟩] w fun e w' => e = .returned (.int .i64 (Gl.value [a, b, c])) ∧ Below w.heap.size w w' := by
  go_enter Tryz.func71, Tryz.ntmps71
  go_wp2
  go_quiet (fail)
  go_wp2
  go_ret
  exact ⟨ret_int (val3 a b c), below_drewN (Below.refl _ _) _⟩
theorem rvalue_any (s : ByteArray) (w : World) (h1 : 1 ≤ s.size) (h3 : s.size ≤ 3) :
    Calls Tryz.prog 71 #[.string s] w fun e w' => e = .returned (.int .i64 (Gl.value s.data.toList)) ∧ Below w.heap.size w w' := by
  obtain ⟨⟨l⟩⟩ := s
  match l, h1, h3 with
  | [a], _, _ => exact rvalue1 a w
  | [a, b], _, _ => exact rvalue2 a b w
  | [a, b, c], _, _ => exact rvalue3 a b c w
  | [], h, _ => simp [ByteArray.size] at h
  | a :: b :: c :: d :: r, _, h => simp [ByteArray.size] at h
theorem u8_nat {x : Int} (h0 : 0 ≤ x) (h1 : x ≤ 255) : ((UInt8.ofNat x.toNat).toNat : Int) = x := by
  rw [UInt8.toNat_ofNat']; omega
theorem conv_new (xs : List Int) (h : ∀ x ∈ xs, 0 ≤ x ∧ x ≤ 255) (w : World) :
    (convert 98 9 (.slice (some ⟨w.heap.size, 0, none⟩) xs.length xs.length)).run Tryz.prog (w.alloc (.cells (xs.map (Value.int .u8)).toArray 5)) =
      .ok (.string ⟨(xs.map (fun x => UInt8.ofNat x.toNat)).toArray⟩) (w.alloc (.cells (xs.map (Value.int .u8)).toArray 5)) := by
  have := run_convert_bytes_back (P := Tryz.prog) (w.alloc (.cells (xs.map (Value.int .u8)).toArray 5)) 98 9 5 ⟨w.heap.size, 0, none⟩ xs.length (xs.map (fun x => UInt8.ofNat x.toNat)) Tryz.underlying98 Tryz.underlying5 Tryz.underlying9 (fun j hj => by
    have hj' : j < xs.length := by simpa using hj
    have e : (Addr.add ⟨w.heap.size, 0, none⟩ j) = ⟨w.heap.size, j, none⟩ := by unfold Addr.add; split <;> simp_all
    rw [e]
    simp only [List.getElem_map]
    obtain ⟨a, b⟩ := h xs[j] (List.getElem_mem _)
    rw [u8_nat a b]
    have hh := heap_alloc_new w (.cells (xs.map (Value.int .u8)).toArray 5)
    unfold World.cell?
    rw [hh]
    simp [hj'])
  simpa using this
theorem ret_str {l l' : List UInt8} (h : l = l') : Ending.returned (.string ⟨l.toArray⟩) = .returned (.string ⟨l'.toArray⟩) := by rw [h]
theorem Gl.unit_one {r : Int} (h : r < 128) : Gl.unit r = [UInt8.ofNat r.toNat] := by unfold Gl.unit; rw [if_pos h]
theorem Gl.unit_two {r : Int} (h0 : 0 ≤ r) (h1 : 128 ≤ r) (h : r < 2048) : Gl.unit r = [UInt8.ofNat (192 + r / 64).toNat, UInt8.ofNat (128 + r % 64).toNat] := by
  unfold Gl.unit; rw [if_neg (by omega), if_pos h, show (192 + r / 64).toNat = 192 + r.toNat / 64 by omega, show (128 + r % 64).toNat = 128 + r.toNat % 64 by omega]
theorem Gl.unit_three {r : Int} (h0 : 0 ≤ r) (h : 2048 ≤ r) : Gl.unit r = [UInt8.ofNat (224 + r / 4096).toNat, UInt8.ofNat (128 + r / 64 % 64).toNat, UInt8.ofNat (128 + r % 64).toNat] := by
  unfold Gl.unit
  rw [if_neg (by omega), if_neg (by omega), show (224 + r / 4096).toNat = 224 + r.toNat / 4096 by omega, show (128 + r / 64 % 64).toNat = 128 + r.toNat / 64 % 64 by omega, show (128 + r % 64).toNat = 128 + r.toNat % 64 by omega]
theorem runit_any (r : Int) (w : World) (h0 : 0 ≤ r) (h1 : r ≤ 65535) :
    Calls Tryz.prog 73 #[.int .i64 r] w fun e w' => e = .returned (.string ⟨(Gl.unit r).toArray⟩) ∧ Below w.heap.size w w' := by
  by_cases h2 : r < 128
  · have hk := conv_new [r] (by simp; omega)
    simp only [List.map_cons, List.map_nil, List.length_cons, List.length_nil] at hk
    go_enter Tryz.func73, Tryz.ntmps73
    go_wp2
    go_ret
    exact ⟨ret_str (Gl.unit_one h2).symm, (Below.refl _ _).alloc (Nat.le_refl _) _⟩
  by_cases h3 : r < 2048
  · have hk := conv_new [192 + r / 64, 128 + r % 64] (by simp; omega)
    simp only [List.map_cons, List.map_nil, List.length_cons, List.length_nil] at hk
    go_enter Tryz.func73, Tryz.ntmps73
    go_wp2
    go_ret
    exact ⟨ret_str (Gl.unit_two h0 (by omega) h3).symm, (Below.refl _ _).alloc (Nat.le_refl _) _⟩
  · have hk := conv_new [224 + r / 4096, 128 + r / 64 % 64, 128 + r % 64] (by simp; omega)
    simp only [List.map_cons, List.map_nil, List.length_cons, List.length_nil] at hk
    go_enter Tryz.func73, Tryz.ntmps73
    go_wp2
    go_ret
    exact ⟨ret_str (Gl.unit_three h0 (by omega)).symm, (Below.refl _ _).alloc (Nat.le_refl _) _⟩
end Go.Proofs.YtcbobceggjndlaaGreatDoor
namespace Go.Proofs.YtcbobceggjndlaaGreatDoor
open Go.RowKit
/-- A list of integers of the call's own, and an error number. -/
def DecPost (o : Option (List Int)) (w : World) (e : Ending) (w' : World) : Prop :=
  Below w.heap.size w w' ∧ ∃ v, OI w' w.heap.size v (o.getD []) ∧ e = .returned (.tuple #[v, .int .i64 (if o.isSome then 0 else 4)])
theorem dec_some {s : ByteArray} {pos : Nat} (h : pos < s.size) (hs : 0 ≤ Gl.script ((Utf8.decode s pos).1 : Int)) (acc : List Int)
    (ha : Gl.decode s.data.toList = (Gl.decode (s.data.toList.drop pos)).map (acc ++ ·)) :
    Gl.decode s.data.toList = (Gl.decode (s.data.toList.drop (pos + (Utf8.decode s pos).2))).map ((acc ++ [((Utf8.decode s pos).1 : Int)]) ++ ·) := by
  rw [← Lib.decodeL_drop] at hs ⊢
  have hl : 0 < (s.data.toList.drop pos).length := by rw [List.length_drop]; have := Lib.size_eq s; omega
  obtain ⟨h1, h2⟩ := Gl.go_some hl hs
  rw [ha, Gl.decode_step hl, h1]
  simp only
  rw [List.drop_drop, ← h2, Option.map_map]
  congr 1
  funext L
  simp
theorem dec_none {s : ByteArray} {pos : Nat} (h : pos < s.size) (hs : Gl.script ((Utf8.decode s pos).1 : Int) < 0) (acc : List Int)
    (ha : Gl.decode s.data.toList = (Gl.decode (s.data.toList.drop pos)).map (acc ++ ·)) : Gl.decode s.data.toList = none := by
  rw [← Lib.decodeL_drop] at hs
  have hl : 0 < (s.data.toList.drop pos).length := by rw [List.length_drop]; have := Lib.size_eq s; omega
  rw [ha, Gl.decode_step hl, Gl.go_none hs]; rfl
theorem dec_end {s : ByteArray} {pos : Nat} (h : ¬ pos < s.size) (acc : List Int)
    (ha : Gl.decode s.data.toList = (Gl.decode (s.data.toList.drop pos)).map (acc ++ ·)) : Gl.decode s.data.toList = some acc := by
  have := Lib.size_eq s
  rw [ha, List.drop_of_length_le (by omega), Gl.decode_nil]; simp
set_option maxHeartbeats 4000000 in
theorem gdecode_any (s : ByteArray) (w : World) (ht : Gl.Tab w) (hs : s.size ≤ 10000000000000) :
    Calls Tryz.prog 65 #[.string s] w (DecPost (Gl.decode s.data.toList) w) := by
  have hv := ht.lt
  go_enter Tryz.func65, Tryz.ntmps65
  go_wp2_with fail
  go_loopw [2] (fun v wr => ∃ (pos : Nat) (acc : List Int), OI wr (w.heap.size + 1) v acc ∧ wr.heap[w.heap.size]? = some (.stringIter s pos) ∧ Below w.heap.size w wr ∧ Hid (Gl.decode s.data.toList = (Gl.decode (s.data.toList.drop pos)).map (acc ++ ·)) ∧ acc.length ≤ pos ∧ acc.length ≤ s.size) (fun _ wr => s.size - wr.iterPos w.heap.size)
  case atStart =>
    exact ⟨0, [], OI.nil _ _, by have := World.iter_heap w s 0; simpa using this, (Below.refl _ w).alloc (Nat.le_refl _) _, by simp [Hid], by simp, by simp⟩
  case round =>
    obtain ⟨pos, acc, hown, hit, hbw, hacc, hal, hal2⟩ := hrel
    have hsz : w.heap.size < wr.heap.size := (Array.getElem?_eq_some_iff.1 hit).1
    have htw := ht.below hbw (Nat.le_refl _)
    by_cases hp : pos < s.size
    · have hnx : ∀ ty, (Instr.next (.pointer (some ⟨w.heap.size, 0, none⟩)) true ty).run Tryz.prog wr = _ := fun ty => Lib.run_next_any_at wr w.heap.size s pos ty hit hp
      have hwd := Lib.width_pos s pos
      have hd1 := decode_le s pos
      have hown2 := hown.iterAt (Nat.lt_succ_self _) s (pos + (Utf8.decode s pos).2)
      have hit2 := Lib.iterAt_heap wr w.heap.size s pos (pos + (Utf8.decode s pos).2) hit
      have hbw2 := Lib.below_iterAt hbw (k := w.heap.size) (by omega) s (pos + (Utf8.decode s pos).2)
      have htw2 := htw.iterAt (k := w.heap.size) (by omega) s (pos + (Utf8.decode s pos).2)
      by_cases h0 : Gl.script ((Utf8.decode s pos).1 : Int) < 0
      · have hfin := dec_none hp h0 acc hacc.out
        have HF := Lib.hid hfin
        clear hfin
        go_wp2_with (go_at_call 67; refine (gscript_any _ _ htw2).mono ?_; rintro e w1 ⟨rfl, hb1⟩)
        go_ret2
        exact ⟨hbw2.trans (hb1.mono (by rw [Lib.iterAt_size]; omega)), .slice none 0 0, by rw [HF.out]; exact OI.nil _ _, by rw [HF.out]; rfl⟩
      · have hacc2 := Lib.hid (dec_some hp (by omega) acc hacc.out)
        go_wp2_with (go_at_call 67; refine (gscript_any _ _ htw2).mono ?_)
        rintro e w1 rfl hb1
        have hz1 := hb1.size
        rw [Lib.iterAt_size] at hz1
        have hown3 := hown2.below hb1 (Nat.le_refl _)
        go_wp2_with (at_builtin; go_loud (refine append_int rfl _ _ rfl w1 (w.heap.size + 1) u2 acc ((Utf8.decode s pos).1 : Int) rfl hown3 rfl (by omega) (by omega) ?_; intro v' w2 hown4 hb2 hg2))
        go_roundw
        case rel =>
          have hi1 : w1.heap[w.heap.size]? = some (.stringIter s (pos + (Utf8.decode s pos).2)) := (hb1.block _ (by rw [Lib.iterAt_size]; omega)).trans hit2
          exact ⟨pos + (Utf8.decode s pos).2, acc ++ [((Utf8.decode s pos).1 : Int)], hown4, (hb2.block _ (by omega)).trans hi1, (hbw2.trans (hb1.mono (by rw [Lib.iterAt_size]; omega))).trans (hb2.mono (by omega)), hacc2, by simp; omega, by simp; omega⟩
        case measure =>
          have hi1 : w1.heap[w.heap.size]? = some (.stringIter s (pos + (Utf8.decode s pos).2)) := (hb1.block _ (by rw [Lib.iterAt_size]; omega)).trans hit2
          simp only [World.iterPos, (hb2.block _ (by omega)).trans hi1, hit]
          omega
    · have hnx : ∀ ty, (Instr.next (.pointer (some ⟨w.heap.size, 0, none⟩)) true ty).run Tryz.prog wr = _ := fun ty => Lib.run_next_end_at wr w.heap.size s pos ty hit hp
      have hfin := Lib.hid (dec_end hp acc hacc.out)
      go_wp2_with fail
      go_ret2
      exact ⟨hbw, _, by rw [hfin.out]; exact hown.mono (by omega), by rw [hfin.out]; rfl⟩
end Go.Proofs.YtcbobceggjndlaaGreatDoor
namespace Go.Proofs.YtcbobceggjndlaaGreatDoor
open Go.RowKit
/-- A string and an error number. -/
def EncPost (o : Option (List UInt8)) (w : World) (e : Ending) (w' : World) : Prop :=
  e = .returned (.tuple #[.string ⟨(o.getD []).toArray⟩, .int .i64 (if o.isSome then 0 else 4)]) ∧ Below w.heap.size w w'
end Go.Proofs.YtcbobceggjndlaaGreatDoor
namespace Go.Proofs.YtcbobceggjndlaaGreatDoor
open Go.RowKit
theorem extract_take (s : ByteArray) (i n : Nat) : (s.extract i (i + n)).data.toList = (s.data.toList.drop i).take n := by
  rw [Lib.extract_data, show i + n - i = n by omega]
/-- No shorter piece encodes a code point. -/
def NoFit (l : List UInt8) (m : Nat) : Prop := ∀ j, 1 ≤ j → j < m → Gl.fits j l = false
theorem first_fit {l : List UInt8} {m : Nat} (hn : NoFit l m) (hm1 : 1 ≤ m) (hm3 : m ≤ 3) (hf : Gl.fits m l = true) : Gl.first l = some (Gl.value (l.take m)) := by
  unfold Gl.first
  obtain rfl | rfl | rfl : m = 1 ∨ m = 2 ∨ m = 3 := by omega
  · rw [if_pos hf]
  · rw [if_neg (by rw [hn 1 (by omega) (by omega)]; decide), if_pos hf]
  · rw [if_neg (by rw [hn 1 (by omega) (by omega)]; decide), if_neg (by rw [hn 2 (by omega) (by omega)]; decide), if_pos hf]
theorem first_nofit {l : List UInt8} {m : Nat} (hn : NoFit l m) (hm : 4 ≤ m ∨ l.length < m) : Gl.first l = none := by
  have h : ∀ j, 1 ≤ j → j ≤ 3 → Gl.fits j l = false := fun j h1 h3 => by
    by_cases hj : j < m
    · exact hn j h1 hj
    · unfold Gl.fits
      have : ¬ j ≤ l.length := by omega
      simp [this]
  unfold Gl.first
  rw [if_neg (by rw [h 1 (by omega) (by omega)]; decide), if_neg (by rw [h 2 (by omega) (by omega)]; decide), if_neg (by rw [h 3 (by omega) (by omega)]; decide)]
theorem noFit_succ {l : List UInt8} {m : Nat} (hn : NoFit l m) (hf : Gl.fits m l = false) : NoFit l (m + 1) := fun j h1 h2 => by
  rcases Nat.lt_or_eq_of_le (Nat.le_of_lt_succ h2) with h | rfl
  · exact hn j h1 h
  · exact hf
theorem rdec_some {s : ByteArray} {pos m : Nat} (h : pos < s.size) (hn : NoFit (s.data.toList.drop pos) m) (hm1 : 1 ≤ m) (hm3 : m ≤ 3) (hf : Gl.fits m (s.data.toList.drop pos) = true) (acc : List Int)
    (ha : Gl.decode s.data.toList = (Gl.decode (s.data.toList.drop pos)).map (acc ++ ·)) :
    Gl.decode s.data.toList = (Gl.decode (s.data.toList.drop (pos + m))).map ((acc ++ [Gl.value ((s.data.toList.drop pos).take m)]) ++ ·) := by
  have hl : 0 < (s.data.toList.drop pos).length := by rw [List.length_drop]; have := Lib.size_eq s; omega
  have h1 := first_fit hn hm1 hm3 hf
  rw [ha, Gl.decode_step hl, h1]
  simp only
  rw [List.drop_drop, Gl.fits_len hf, Option.map_map]
  congr 1
  funext L
  simp
theorem rdec_none {s : ByteArray} {pos m : Nat} (h : pos < s.size) (hn : NoFit (s.data.toList.drop pos) m) (hm : 4 ≤ m ∨ s.size < pos + m) (acc : List Int)
    (ha : Gl.decode s.data.toList = (Gl.decode (s.data.toList.drop pos)).map (acc ++ ·)) : Gl.decode s.data.toList = none := by
  have hl : 0 < (s.data.toList.drop pos).length := by rw [List.length_drop]; have := Lib.size_eq s; omega
  rw [ha, Gl.decode_step hl, first_nofit hn (by rw [List.length_drop]; have := Lib.size_eq s; omega)]; rfl
theorem fits_of {s : ByteArray} {pos m : Nat} (hps : pos + m ≤ s.size) (r : Int) (hr : Gl.value ((s.data.toList.drop pos).take m) = r) :
    Gl.fits m (s.data.toList.drop pos) = (decide (0 ≤ Gl.script r) && decide (Gl.unit r = (s.data.toList.drop pos).take m)) := by
  unfold Gl.fits
  have : m ≤ (s.data.toList.drop pos).length := by rw [List.length_drop]; have := Lib.size_eq s; omega
  rw [hr]
  have h2 : decide (m ≤ (s.data.toList.drop pos).length) = true := by simpa using this
  rw [h2, Bool.true_and]
theorem ownsRow_drewN {w : World} {B : Nat} {v : Value} {xs : List Int} (h : OI w B v xs) {n : Nat} : OI (w.drewN n) B v xs := h
theorem rscript_q (r : Int) (w : World) :
    Calls Tryz.prog 72 #[.int .i64 r] w fun e w' => e = .returned (.int .i64 (Gl.script r)) ∧ w' = w := (rscript_any r w).mono fun _ _ h => ⟨h.1, h.2.symm⟩
set_option maxHeartbeats 4000000 in
theorem rdecode_any (s : ByteArray) (w : World) (hs : s.size ≤ 10000000000000) :
    Calls Tryz.prog 35 #[.string s] w (DecPost (Gl.decode s.data.toList) w) := by
  go_enter Tryz.func35, Tryz.ntmps35
  go_wp2_with fail
  go_loopw [4, 5] (fun v i wr => ∃ (pos : Nat) (acc : List Int), i = .int .i64 pos ∧ pos ≤ s.size ∧ OI wr w.heap.size v acc ∧ Below w.heap.size w wr ∧ Hid (Gl.decode s.data.toList = (Gl.decode (s.data.toList.drop pos)).map (acc ++ ·)) ∧ acc.length ≤ pos) (fun _ i _ => s.size - (intOf i).toNat)
  case atStart => exact ⟨0, [], rfl, by omega, OI.nil _ _, Below.refl _ _, by simp [Hid], by simp⟩
  case round =>
    obtain ⟨pos, acc, rfl, hpos, hown, hbw, hacc, hal⟩ := hrel
    by_cases hp : pos < s.size
    · obtain ⟨wo, rfl⟩ : ∃ wo : World, wo = wr := ⟨_, rfl⟩
      go_wp2_with fail
      go_loopw [4, 6, 7] (fun v u n wr => ∃ m : Nat, 1 ≤ m ∧ m ≤ 4 ∧ Below w.heap.size w wr ∧ NoFit (s.data.toList.drop pos) m ∧
        ((u = .int .i64 0 ∧ n = .int .i64 m ∧ OI wr w.heap.size v acc) ∨
         (u = .int .i64 m ∧ n = .int .i64 (m + 1) ∧ m ≤ 3 ∧ Gl.fits m (s.data.toList.drop pos) = true ∧ OI wr w.heap.size v (acc ++ [Gl.value ((s.data.toList.drop pos).take m)])))) (fun _ _ n _ => 5 - (intOf n).toNat)
      case atStart => exact ⟨1, by omega, by omega, hbw, fun j h1 h2 => absurd h1 (by omega), Or.inl ⟨rfl, rfl, hown⟩⟩
      case round =>
        obtain ⟨m, hm1, hm4, hbi, hno, hcase⟩ := hrel
        rcases hcase with ⟨rfl, rfl, hown2⟩ | ⟨rfl, rfl, hm3, hfit, hown2⟩
        · by_cases hm : m ≤ 3 ∧ pos + m ≤ s.size
          · obtain ⟨hm3, hps⟩ := hm
            have hxl : (s.extract pos (pos + m)).size = m := by simp; omega
            have hcon := rvalue_any (s.extract pos (pos + m))
            have hxe := extract_take s pos m
            rw [hxe, hxl] at hcon
            have hfo := fits_of hps _ rfl
            generalize hr : Gl.value ((s.data.toList.drop pos).take m) = r at *
            have HR := Lib.hid hr
            have HXE := Lib.hid hxe
            have HFO := Lib.hid hfo
            have HC := Lib.hid hcon
            clear hr hxe hxl hfo hcon
            by_cases h0 : 0 ≤ Gl.script r
            · have h0' : decide (0 ≤ Gl.script r) = true := by simpa using h0
              have hbd := Gl.script_bounds h0
              have hte : (s.extract pos (pos + m)).toList = (s.data.toList.drop pos).take m := by rw [Lib.toList_data, HXE.out]
              by_cases hu : Gl.unit r = (s.data.toList.drop pos).take m
              · have hub : (Gl.unit r == (s.extract pos (pos + m)).toList) = true := by rw [hte]; simpa using hu
                have HFT : Hid (Gl.fits m (s.data.toList.drop pos) = true) := by show _ = true; rw [HFO.out, h0']; simpa using hu
                clear hu hte
                go_wp2_with (go_at_call 71; refine (HC.out _ (by omega) (by omega)).mono ?_; rintro e w1 ⟨rfl, hb1⟩)
                have k1 : IntKind.i64.wrap ((pos : Int) + (m : Int)) = (pos : Int) + (m : Int) := IntWalk.i64_in _ ⟨by omega, by omega⟩
                have k2 : (0 : Int) ≤ (pos : Int) + (m : Int) := by omega
                have k3 : ((pos : Int) + (m : Int)).toNat = pos + m := by omega
                have k4 : (pos : Int) ≤ (pos : Int) + (m : Int) := by omega
                have k5 : (pos : Int) + (m : Int) ≤ (s.size : Int) := by omega
                have k6 : (0 : Int) ≤ (pos : Int) := by omega
                go_region_held3 (fun _ => True) (trivial) (first | (go_at_call 72; refine (rscript_any _ _).mono ?_; rintro e w' ⟨rfl, rfl⟩) | (go_at_call 73; refine (runit_any _ _ (by omega) (by omega)).mono ?_; rintro e w2 ⟨rfl, hb2⟩))
                clear k1 k2 k3 k4 k5 k6
                have hb2 : Below w1.heap.size w1 w2 := ⟨hb2.os, hb2.tape, hb2.output, hb2.size, hb2.block⟩
                have hown3 : OI w2 w.heap.size u4 acc := (hown2.below hb1 (Nat.le_refl _)).below hb2 (Nat.le_refl _)
                have hz1 := hb1.size
                have hz2 := hb2.size
                have hz0 := hbi.size
                go_wp2_with (at_builtin; refine append_int rfl _ _ rfl w2 w.heap.size u4 acc r rfl hown3 rfl (by omega) (by omega) ?_; intro v' w3 hown4 hb3 hg3)
                go_roundw
                case rel => exact ⟨m, by omega, by omega, ((hbi.trans (hb1.mono hbi.size)).trans (hb2.mono (by omega))).trans hb3, hno, Or.inr ⟨rfl, rfl, hm3, HFT.out, by rw [HR.out]; exact hown4⟩⟩
                case measure => simp [intOf]; omega
              · have hub : (Gl.unit r == (s.extract pos (pos + m)).toList) = false := by rw [hte]; simpa using hu
                have HN := Lib.hid (noFit_succ hno (by rw [HFO.out, h0']; simpa using hu))
                clear hu hte
                go_wp2_with (go_at_call 71; refine (HC.out _ (by omega) (by omega)).mono ?_; rintro e w1 ⟨rfl, hb1⟩)
                have k1 : IntKind.i64.wrap ((pos : Int) + (m : Int)) = (pos : Int) + (m : Int) := IntWalk.i64_in _ ⟨by omega, by omega⟩
                have k2 : (0 : Int) ≤ (pos : Int) + (m : Int) := by omega
                have k3 : ((pos : Int) + (m : Int)).toNat = pos + m := by omega
                have k4 : (pos : Int) ≤ (pos : Int) + (m : Int) := by omega
                have k5 : (pos : Int) + (m : Int) ≤ (s.size : Int) := by omega
                have k6 : (0 : Int) ≤ (pos : Int) := by omega
                go_region_held3 (fun _ => True) (trivial) (first | (go_at_call 72; refine (rscript_any _ _).mono ?_; rintro e w' ⟨rfl, rfl⟩) | (go_at_call 73; refine (runit_any _ _ (by omega) (by omega)).mono ?_; rintro e w2 ⟨rfl, hb2⟩))
                clear k1 k2 k3 k4 k5 k6
                have hb2 : Below w1.heap.size w1 w2 := ⟨hb2.os, hb2.tape, hb2.output, hb2.size, hb2.block⟩
                have hown3 : OI w2 w.heap.size u4 acc := (hown2.below hb1 (Nat.le_refl _)).below hb2 (Nat.le_refl _)
                have hz1 := hb1.size
                have hz0 := hbi.size
                go_wp2_with fail
                go_roundw
                case rel => exact ⟨m + 1, by omega, by omega, (hbi.trans (hb1.mono hbi.size)).trans (hb2.mono (by omega)), HN.out, Or.inl ⟨rfl, by go_num, hown3⟩⟩
                case measure => simp [intOf]; omega
            · have h0' : decide (0 ≤ Gl.script r) = false := by simpa using h0
              have HN := Lib.hid (noFit_succ hno (by rw [HFO.out, h0']; rfl))
              go_wp2_with (go_at_call 71; refine (HC.out _ (by omega) (by omega)).mono ?_; rintro e w1 ⟨rfl, hb1⟩)
              go_quiet ((go_at_call 72; exact Calls.quiet_of_same (rscript_q _ _)))
              go_wp2_with fail
              go_roundw
              case rel => exact ⟨m + 1, by omega, by omega, below_drewN (hbi.trans (hb1.mono hbi.size)) _, HN.out, Or.inl ⟨rfl, by go_num, ownsRow_drewN (hown2.below hb1 (Nat.le_refl _))⟩⟩
              case measure => simp [intOf]; omega
          · have HF := Lib.hid (rdec_none hp hno (by omega) acc hacc.out)
            by_cases hm3 : m ≤ 3
            · have hps : s.size < pos + m := by omega
              clear hm
              go_wp2_with fail
              go_ret2
              exact ⟨hbi, .slice none 0 0, by rw [HF.out]; exact OI.nil _ _, by rw [HF.out]; rfl⟩
            · clear hm
              obtain rfl : m = 4 := by omega
              go_wp2_with fail
              go_ret2
              exact ⟨hbi, .slice none 0 0, by rw [HF.out]; exact OI.nil _ _, by rw [HF.out]; rfl⟩
        · have hz : ((m : Int) == 0) = false := by simp; omega
          have hacc2 := Lib.hid (rdec_some hp hno hm1 hm3 hfit acc hacc.out)
          have hle : pos + m ≤ s.size := by have := (Gl.fits_iff.1 hfit).1; rw [List.length_drop] at this; have := Lib.size_eq s; omega
          go_wp2_with fail
          all_goals
            go_roundw
            case rel => exact ⟨pos + m, acc ++ [Gl.value ((s.data.toList.drop pos).take m)], by go_num, hle, hown2, hbi, hacc2, by simp; omega⟩
            case measure => simp [intOf]; omega
    · have HF := Lib.hid (dec_end hp acc hacc.out)
      go_wp2_with fail
      go_ret2
      exact ⟨hbw, _, by rw [HF.out]; exact hown, by rw [HF.out]; rfl⟩
end Go.Proofs.YtcbobceggjndlaaGreatDoor
namespace Go.Proofs.YtcbobceggjndlaaGreatDoor
namespace Gl
/-- Has the code point a direction of its own? -/
def st (r : Int) : Bool := script r != 0
/-- Is it a Hebrew letter? -/
def hb (r : Int) : Bool := script r == 4
/-- The base direction: true for right-to-left. -/
def base (l : List Int) : Bool := match l.find? st with | some r => hb r | none => false
/-- The direction behind a list, where b held before it. -/
def scan (b : Bool) (l : List Int) : Bool := l.foldl (fun a r => if st r then hb r else a) b
/-- The direction of the code point with an index. -/
def left (l : List Int) (i : Nat) : Bool :=
  if scan (base l) (l.take (i + 1)) = scan (base l) (l.drop i).reverse then scan (base l) (l.take (i + 1)) else base l
/-- A list that was reversed: its digits back in their order. -/
def fixN : Nat → List Int → List Int
  | 0, _ => []
  | _ + 1, [] => []
  | f + 1, x :: t => if digit x then ((x :: t).takeWhile digit).reverse ++ fixN f ((x :: t).dropWhile digit) else x :: fixN f t
def fix (l : List Int) : List Int := fixN l.length l
/-- A right-to-left run as it stands from left to right. -/
def turned (l : List Int) : List Int := fix l.reverse
/-- The end of the run that begins at i. -/
def runEnd (p : Nat → Bool) (n : Nat) : Nat → Nat → Nat
  | 0, j => j
  | f + 1, j => if j < n ∧ p j = true then runEnd p n f (j + 1) else j
/-- The runs of a list, from an index on: by the directions of its code points. -/
def runsN (l : List Int) : Nat → Nat → List (List Int)
  | 0, _ => []
  | f + 1, i => if i < l.length then
      let j := runEnd (fun k => left l k == left l i) l.length l.length (i + 1)
      (if left l i then turned ((l.take j).drop i) else (l.take j).drop i) :: runsN l f j
    else []
def runs (l : List Int) : List (List Int) := runsN l l.length 0
/-- The order from left to right. -/
def order (l : List Int) : List Int := if base l then (runs l).reverse.flatten else (runs l).flatten
theorem fixN_more : ∀ (f : Nat) (l : List Int), l.length ≤ f → fixN f l = fix l := by
  have key : ∀ (n f g : Nat) (l : List Int), l.length ≤ n → l.length ≤ f → l.length ≤ g → fixN f l = fixN g l := by
    intro n
    induction n with
    | zero =>
      intro f g l h _ _
      have : l = [] := List.length_eq_zero_iff.1 (by omega)
      subst this
      cases f <;> cases g <;> rfl
    | succ n ih =>
      intro f g l hn hf hg
      cases l with
      | nil => cases f <;> cases g <;> rfl
      | cons x t =>
        simp at hn hf hg
        cases f with
        | zero => omega
        | succ f =>
          cases g with
          | zero => omega
          | succ g =>
            simp only [fixN]
            by_cases hd : digit x = true
            · rw [if_pos hd, if_pos hd]
              have hl : ((x :: t).dropWhile digit).length ≤ t.length := by
                rw [List.dropWhile_cons_of_pos hd]
                exact List.Sublist.length_le (List.dropWhile_sublist _)
              rw [ih f g _ (by omega) (by omega) (by omega)]
            · rw [if_neg hd, if_neg hd, ih f g t (by omega) (by omega) (by omega)]
  intro f l h
  exact key l.length f l.length l (Nat.le_refl _) h (Nat.le_refl _)
theorem fix_nil : fix [] = [] := rfl
theorem fix_other {x : Int} {t : List Int} (h : digit x = false) : fix (x :: t) = x :: fix t := by
  rw [← fixN_more (t.length + 1) (x :: t) (by simp)]
  simp only [fixN, h]
  rw [fixN_more t.length t (Nat.le_refl _)]; rfl
theorem fix_digits (d t : List Int) (hd : ∀ x ∈ d, digit x = true) (hne : d ≠ []) (ht : ∀ x, t.head? = some x → digit x = false) : fix (d ++ t) = d.reverse ++ fix t := by
  have e1 : (d ++ t).takeWhile digit = d := by
    rw [List.takeWhile_append_of_pos hd]
    cases t with
    | nil => simp
    | cons y t => rw [List.takeWhile_cons_of_neg (by rw [ht y rfl]; decide)]; simp
  have e2 : (d ++ t).dropWhile digit = t := by
    rw [List.dropWhile_append_of_pos hd]
    cases t with
    | nil => rfl
    | cons y t => rw [List.dropWhile_cons_of_neg (by rw [ht y rfl]; decide)]
  cases d with
  | nil => exact absurd rfl hne
  | cons x d =>
    rw [← fixN_more ((d ++ t).length + 1) (x :: d ++ t) (by simp)]
    have hx := hd x (by simp)
    simp only [List.cons_append, fixN, hx, if_true]
    rw [List.cons_append] at e1 e2
    rw [e1, e2, fixN_more _ t (by simp)]
end Gl
end Go.Proofs.YtcbobceggjndlaaGreatDoor
namespace Go.Proofs.YtcbobceggjndlaaGreatDoor
open Go.RowKit
/-- Block b is just the cells l (of the element type t), none of them frozen. -/
def Blk (w : World) (b : Nat) (t : TypeId) (l : List Value) : Prop := w.heap[b]? = some (.cells l.toArray t (0, 0))
theorem Blk.lt {w : World} {b : Nat} {t : TypeId} {l : List Value} (h : Blk w b t l) : b < w.heap.size := (Array.getElem?_eq_some_iff.1 h).1
theorem Blk.cell {w : World} {b : Nat} {t : TypeId} {l : List Value} (h : Blk w b t l) (i : Nat) : w.cell? ⟨b, i, none⟩ = l[i]? := by
  unfold Blk at h
  simp [World.cell?, h]
theorem Blk.below {w w' : World} {b D : Nat} {t : TypeId} {l : List Value} (h : Blk w b t l) (hb : Below D w w') (hD : b < D) : Blk w' b t l := (hb.block b hD).trans h
end Go.Proofs.YtcbobceggjndlaaGreatDoor
namespace Go.Proofs.YtcbobceggjndlaaGreatDoor
open Go.RowKit
/-- The list is turned up to index i. -/
def TurnRel (xs cur : List Int) (i : Nat) : Prop :=
  cur.length = xs.length ∧ ((i ≤ xs.length ∧ Gl.turned xs = cur.take i ++ Gl.fix (cur.drop i)) ∨ (xs.length ≤ i ∧ i ≤ xs.length + 1 ∧ cur = Gl.turned xs))
theorem TurnRel.fin {xs cur : List Int} {i : Nat} (h : TurnRel xs cur i) (hi : ¬ i < xs.length) : cur = Gl.turned xs := by
  obtain ⟨hl, ⟨h1, h2⟩ | ⟨_, _, h3⟩⟩ := h
  · have : i = xs.length := by omega
    subst this
    rw [h2, ← hl, List.take_length, List.drop_length, Gl.fix_nil, List.append_nil]
  · exact h3
theorem TurnRel.one {xs cur : List Int} {i : Nat} (h : TurnRel xs cur i) (hi : i < xs.length) (hd : Gl.digit (gi cur i) = false) : TurnRel xs cur (i + 1) := by
  obtain ⟨hl, ⟨h1, h2⟩ | ⟨h3, _, _⟩⟩ := h
  · refine ⟨hl, Or.inl ⟨by omega, ?_⟩⟩
    rw [h2, drop_gi (by omega), Gl.fix_other hd, take_gi (by omega)]; simp
  · omega
theorem TurnRel.some {xs cur : List Int} {i j : Nat} (h : TurnRel xs cur i) (hij : i < j) (hj : j ≤ xs.length) (hd : ∀ k, i ≤ k → k < j → Gl.digit (gi cur k) = true) (hs : j = xs.length ∨ Gl.digit (gi cur j) = false) :
    TurnRel xs (cur.take i ++ ((cur.drop i).take (j - i)).reverse ++ cur.drop j) (j + 1) := by
  obtain ⟨hl, ⟨h1, h2⟩ | ⟨h3, _, _⟩⟩ := h
  · have e1 : cur.drop i = (cur.drop i).take (j - i) ++ cur.drop j := by
      have := List.take_append_drop (j - i) (cur.drop i)
      rw [List.drop_drop, show i + (j - i) = j by omega] at this
      exact this.symm
    have hz : ((cur.drop i).take (j - i)).length = j - i := by simp; omega
    have hdig : ∀ x ∈ (cur.drop i).take (j - i), Gl.digit x = true := fun x hx => by
      obtain ⟨k, hk, rfl⟩ := List.mem_iff_getElem.1 hx
      have hk' : k < j - i := by omega
      have := hd (i + k) (by omega) (by omega)
      rw [gi_eq (by omega)] at this
      simpa [List.getElem_take, List.getElem_drop] using this
    have hne : (cur.drop i).take (j - i) ≠ [] := by
      intro h0
      have := congrArg List.length h0
      rw [hz] at this; simp at this; omega
    have hhead : ∀ x, (cur.drop j).head? = Option.some x → Gl.digit x = false := fun x hx => by
      rcases hs with hs | hs
      · rw [List.drop_of_length_le (by omega)] at hx; cases hx
      · by_cases hjl : j < cur.length
        · rw [drop_gi hjl] at hx
          injection hx with hx
          rw [← hx]; exact hs
        · rw [List.drop_of_length_le (by omega)] at hx; cases hx
    have e2 := Gl.fix_digits _ _ hdig hne hhead
    rw [← e1] at e2
    have hl2 : (cur.take i ++ ((cur.drop i).take (j - i)).reverse).length = j := by rw [List.length_append, List.length_reverse, hz, List.length_take]; omega
    refine ⟨by rw [List.length_append, hl2, List.length_drop]; omega, ?_⟩
    rw [e2, ← List.append_assoc] at h2
    by_cases hjn : j < xs.length
    · left
      refine ⟨by omega, ?_⟩
      have hnd : Gl.digit (gi cur j) = false := by
        rcases hs with hs | hs
        · omega
        · exact hs
      rw [h2, show cur.drop j = gi cur j :: cur.drop (j + 1) from drop_gi (by omega), Gl.fix_other hnd]
      generalize cur.take i ++ ((cur.drop i).take (j - i)).reverse = P at hl2 ⊢
      subst hl2
      rw [show P ++ gi cur P.length :: cur.drop (P.length + 1) = (P ++ [gi cur P.length]) ++ cur.drop (P.length + 1) by simp, List.take_left' (by simp), List.drop_left' (by simp)]
      simp
    · right
      refine ⟨by omega, by omega, ?_⟩
      rw [h2, show cur.drop j = [] from List.drop_of_length_le (by omega), Gl.fix_nil]
  · omega
end Go.Proofs.YtcbobceggjndlaaGreatDoor
namespace Go.Proofs.YtcbobceggjndlaaGreatDoor
open Go.RowKit Go.Shelf
attribute [local go_sem] Oper.semAt_some
/-- What a round keeps: all that lies below n₀, and block Bs. -/
def KpB (n₀ Bs : Nat) (W W' : World) : Prop := Below n₀ W W' ∧ W'.heap[Bs]? = W.heap[Bs]?
theorem KpB.refl (n₀ Bs : Nat) (W : World) : KpB n₀ Bs W W := ⟨Below.refl _ _, rfl⟩
theorem KpB.trans {n₀ Bs : Nat} {A B C : World} (h : KpB n₀ Bs A B) (k : KpB n₀ Bs B C) : KpB n₀ Bs A C := ⟨h.1.trans k.1, k.2.trans h.2⟩
theorem KpB.cell {n₀ Bs : Nat} {A B : World} (h : KpB n₀ Bs A B) (i : Nat) : B.cell? ⟨Bs, i, none⟩ = A.cell? ⟨Bs, i, none⟩ := World.cell?_of_block (w := A) h.2
theorem KpB.t {n₀ Bs : Nat} : ∀ {A B C : World}, KpB n₀ Bs A B → KpB n₀ Bs B C → KpB n₀ Bs A C := fun h k => h.trans k
theorem KpB.b {n₀ Bs : Nat} {w : World} (h : n₀ ≤ w.heap.size) (hB : Bs < w.heap.size) : ∀ (W : World) (l : Nat) (o o' : Obj), w.heap.size ≤ l → W.heap[l]? = some o → o.isCells = false → o.isWalk = false → KpB n₀ Bs W (W.putObj l o') :=
  fun W l o o' hl ho h1 h2 => ⟨belowK_b h W l o o' hl ho h1 h2, World.putObj_heap_other (by omega)⟩
end Go.Proofs.YtcbobceggjndlaaGreatDoor
namespace Go.Proofs.YtcbobceggjndlaaGreatDoor
open Go.RowKit Go.Shelf
attribute [local go_sem] Oper.semAt_some
/-- The k-th list. -/
def gl (xss : List (List Int)) (k : Nat) : List Int := xss.getD k []
/-- The slice of slices at A reads as these lists of integers. -/
def RL (w : World) (A : Option Addr) (xss : List (List Int)) : Prop :=
  ∀ k, k < xss.length → ∃ b off A' c', A = some ⟨b, off, none⟩ ∧ b < w.heap.size ∧ w.cell? ⟨b, off + k, none⟩ = some (.slice A' (gl xss k).length c') ∧ RI w A' (gl xss k) ∧ (A' = none → c' = 0)
/-- A list of integers of the call's own. -/
def ListPost (xs : List Int) (w : World) (e : Ending) (w' : World) : Prop := Below w.heap.size w w' ∧ ∃ v, e = .returned v ∧ OI w' w.heap.size v xs
end Go.Proofs.YtcbobceggjndlaaGreatDoor
namespace Go.Proofs.YtcbobceggjndlaaGreatDoor
open Go.RowKit Go.Lib Go.Sort
/-- A slice's three numbers, and its value. -/
abbrev Sl := Option Addr × Nat × Nat
def sv (t : Sl) : Value := .slice t.1 t.2.1 t.2.2
/-- The slice of slices v is the call's own (from block B on), and so are the lists in it. -/
def OR (w : World) (B : Nat) (v : Value) (xss : List (List Int)) : Prop :=
  ∃ ts : List Sl, w.ownsRow B 36 1 v ts.length (ts.map sv) ∧ ts.length = xss.length ∧ ∀ i t, ts[i]? = some t → OI w B (sv t) (gl xss i)
theorem OR.nil (w : World) (B : Nat) : OR w B (.slice none 0 0) [] := ⟨[], ⟨by simp, Or.inl ⟨rfl, rfl⟩⟩, rfl, fun i t h => by simp at h⟩
theorem ownsRow_below {w w' : World} {B D : Nat} {e : TypeId} {v : Value} {n : Nat} {xs : List Value} (h : w.ownsRow B e 1 v n xs) (hb : Below D w w') (hD : w.heap.size ≤ D) : w'.ownsRow B e 1 v n xs := by
  obtain ⟨h1, h2⟩ := h
  refine ⟨h1, ?_⟩
  rcases h2 with h2 | ⟨g, cap, cur, hv, hg, hh, r⟩
  · exact Or.inl h2
  · exact Or.inr ⟨g, cap, cur, hv, hg, (hb.block g (Nat.lt_of_lt_of_le (Array.getElem?_eq_some_iff.1 hh).1 hD)).trans hh, r⟩
theorem OR.below {w w' : World} {B D : Nat} {v : Value} {xss : List (List Int)} (h : OR w B v xss) (hb : Below D w w') (hD : w.heap.size ≤ D) : OR w' B v xss := by
  obtain ⟨ts, h1, h2, h3⟩ := h
  exact ⟨ts, ownsRow_below h1 hb hD, h2, fun i t ht => (h3 i t ht).below hb hD⟩
theorem OR.form {w : World} {B : Nat} {v : Value} {xss : List (List Int)} (h : OR w B v xss) : ∃ A c, v = .slice A xss.length c ∧ RL w A xss := by
  obtain ⟨ts, ⟨h1, h1'⟩, h2, h3⟩ := h
  rcases h1' with ⟨rfl, hn⟩ | ⟨g, cap, cur, rfl, hg, hh, hn, hm, hsz, hcur⟩
  · exact ⟨none, 0, by rw [← h2, hn], fun k hk => absurd hk (by omega)⟩
  · refine ⟨_, cap, by rw [h2], fun k hk => ?_⟩
    have hkt : k < ts.length := by omega
    have ho := h3 k ts[k] (List.getElem?_eq_getElem hkt)
    obtain ⟨A', c', e, hc1, hc2, hR⟩ := ho.form
    have hnil : A' = none → c' = 0 := fun hA => by
      subst hA
      rcases ho.2 with ⟨hv, _⟩ | ⟨g, cap, cur, hv, _⟩
      · rw [e] at hv; injection hv
      · rw [e] at hv; injection hv with hv; cases hv
    refine ⟨g, 0, A', c', rfl, (Array.getElem?_eq_some_iff.1 hh).1, ?_, hR, hnil⟩
    have e2 : cur.toList[k]? = some (sv ts[k]) := by
      have : (cur.toList.take (ts.length * 1))[k]? = some (sv ts[k]) := by rw [hcur, List.getElem?_map, List.getElem?_eq_getElem hkt]; rfl
      rwa [List.getElem?_take, if_pos (by omega)] at this
    rw [← e]
    simp [World.cell?, hh]
    simpa using e2
end Go.Proofs.YtcbobceggjndlaaGreatDoor
namespace Go.Proofs.YtcbobceggjndlaaGreatDoor
open Go.RowKit
theorem OI.of_blk {w : World} {B g cap : Nat} {xs : List Int} {sp : List Value} (h : Blk w g 3 (xs.map (Value.int .i64) ++ sp)) (hB : B ≤ g) (hm : cap ≤ maxLen) (hc : xs.length + sp.length = cap) : OI w B (.slice (some ⟨g, 0, none⟩) xs.length cap) xs :=
  ⟨by simp, Or.inr ⟨g, cap, _, rfl, hB, h, by omega, hm, by simp; omega, by simp⟩⟩
end Go.Proofs.YtcbobceggjndlaaGreatDoor
namespace Go.Proofs.YtcbobceggjndlaaGreatDoor
open Go.RowKit
theorem RI.part {w : World} {b off : Nat} {xs : List Int} (h : ∀ j, j < xs.length → w.cell? ⟨b, off + j, none⟩ = some (.int .i64 (gi xs j))) (hb : b < w.heap.size) {f e : Nat} (he : e ≤ xs.length) : RI w (some ⟨b, off + f, none⟩) ((xs.take e).drop f) := fun k hk => by
  refine ⟨b, off + f, rfl, hb, fun j hj => ?_⟩
  have hj' : f + j < e := by simp at hj; omega
  rw [gi_drop, gi_take hj', Nat.add_assoc]
  exact h (f + j) (by omega)
end Go.Proofs.YtcbobceggjndlaaGreatDoor
namespace Go.Proofs.YtcbobceggjndlaaGreatDoor
open Go.RowKit
theorem OI.form_n {w : World} {B n : Nat} {v : Value} {xs : List Int} (h : OI w B v xs) (hn : xs.length = n) : ∃ A c, v = .slice A n c ∧ n ≤ c ∧ RI w A xs ∧ (A = none → c = 0) := by
  subst hn
  obtain ⟨A, c, e, h1, h2, h3⟩ := h.form
  refine ⟨A, c, e, h1, h3, fun hA => ?_⟩
  subst hA
  rcases h.2 with ⟨hv, _⟩ | ⟨g, cap, cur, hv, _⟩
  · rw [e] at hv; injection hv
  · rw [e] at hv; injection hv with hv; cases hv
end Go.Proofs.YtcbobceggjndlaaGreatDoor
namespace Go.Proofs.YtcbobceggjndlaaGreatDoor
open Go.RowKit
theorem Gl.decode_len (l : List UInt8) : ((Gl.decode l).getD []).length ≤ l.length := by
  cases h : Gl.decode l with
  | none => simp
  | some L =>
    obtain ⟨_, rfl⟩ := (Gl.decode_iff l L).1 h
    exact (Gl.units_len L).1
def errOf (b : Bool) : Int := if b then 0 else 4
theorem EncPost.form {o : Option (List UInt8)} {w w' : World} {e : Ending} (h : EncPost o w e w') : e = .returned (.tuple #[.string ⟨(o.getD []).toArray⟩, .int .i64 (errOf o.isSome)]) ∧ Below w.heap.size w w' := h
theorem DecPost.form {o : Option (List Int)} {w w' : World} {e : Ending} (h : DecPost o w e w') : Below w.heap.size w w' ∧ ∃ v, OI w' w.heap.size v (o.getD []) ∧ e = .returned (.tuple #[v, .int .i64 (errOf o.isSome)]) := h
end Go.Proofs.YtcbobceggjndlaaGreatDoor
namespace Go.Proofs.YtcbobceggjndlaaGreatDoor
open Go.RowKit
theorem errOf_some {α : Type} (x : α) : errOf (some x : Option α).isSome = 0 := rfl
theorem errOf_none {α : Type} : errOf (none : Option α).isSome = 4 := rfl
end Go.Proofs.YtcbobceggjndlaaGreatDoor
namespace Go.Proofs.YtcbobceggjndlaaGreatDoor
open Go.RowKit
/-- How many Hebrew code points are among the first i. -/
def hc (xs : List Int) (i : Nat) : Nat := (xs.take i).countP Gl.hb
end Go.Proofs.YtcbobceggjndlaaGreatDoor
namespace Go.Proofs.YtcbobceggjndlaaGreatDoor
namespace Nm
/-- Is the code point a mark? -/
def mark (r : Int) : Bool := r == 32 || r == 39 || r == 40 || r == 41 || r == 45 || r == 46
/-- Does a blank stand behind another one? p: a blank stands ahead of the list. -/
def dbl : Bool → List Int → Bool
  | _, [] => false
  | p, x :: t => (p && x == 32) || dbl (x == 32) t
/-- Does a blank stand at an end, or behind another one? -/
def blanks (L : List Int) : Bool := L.head? == some 32 || L.getLast? == some 32 || dbl false L
/-- Are all code points common ones? -/
def common (L : List Int) : Bool := L.all fun r => Gl.script r == 0
/-- The error of a string as a name; 0: it is one. -/
def check (l : List UInt8) : Int :=
  if l = [] then 14 else if 40 < l.length then 3
  else match Gl.decode l with
    | none => 4
    | some L => if blanks L || common L then 14 else 0
/-- The code points of a name. -/
def read (l : List UInt8) : List Int := if check l = 0 then (Gl.decode l).getD [] else []
/-- The key of a list of code points. -/
def keyOf (L : List Int) : List Int := (L.filter fun r => !mark r).map Gl.fold
def key (l : List UInt8) : List Int := keyOf (read l)
def dbl8 : Bool → List UInt8 → Bool
  | _, [] => false
  | p, x :: t => (p && x == 32) || dbl8 (x == 32) t
theorem dbl8_high {l : List UInt8} (h : ∀ x ∈ l, x ≠ 32) (hne : l ≠ []) (p : Bool) (t : List UInt8) : dbl8 p (l ++ t) = dbl8 false t := by
  induction l generalizing p with
  | nil => exact absurd rfl hne
  | cons x l ih =>
    have hx : (x == 32) = false := by simpa using h x (by simp)
    simp only [List.cons_append, dbl8, hx, Bool.and_false, Bool.false_or]
    cases l with
    | nil => rfl
    | cons y l => exact ih (fun z hz => h z (by simp [hz])) (by simp) _
theorem unit_blank : Gl.unit 32 = [32] := by decide
theorem ofNat_ne {k : Nat} (h : k % 256 ≠ 32) : UInt8.ofNat k ≠ 32 := by
  intro e
  have := congrArg UInt8.toNat e
  simp at this
  omega
theorem unit_other {r : Int} (h : 0 ≤ Gl.script r) (hr : r ≠ 32) : (∀ x ∈ Gl.unit r, x ≠ 32) ∧ Gl.unit r ≠ [] := by
  have hb := Gl.script_bounds h
  unfold Gl.unit
  split
  · refine ⟨fun x hx => ?_, by simp⟩
    simp only [List.mem_singleton] at hx
    subst hx
    exact ofNat_ne (by omega)
  · split
    · refine ⟨fun x hx => ?_, by simp⟩
      simp only [List.mem_cons, List.not_mem_nil, or_false] at hx
      rcases hx with rfl | rfl
      · exact ofNat_ne (by omega)
      · exact ofNat_ne (by omega)
    · refine ⟨fun x hx => ?_, by simp⟩
      simp only [List.mem_cons, List.not_mem_nil, or_false] at hx
      rcases hx with rfl | rfl | rfl
      · exact ofNat_ne (by omega)
      · exact ofNat_ne (by omega)
      · exact ofNat_ne (by omega)
theorem dbl_units : ∀ (L : List Int) (p : Bool), Gl.valid L = true → dbl8 p (Gl.units L) = dbl p L
  | [], p, _ => rfl
  | r :: L, p, h => by
    simp only [Gl.valid, List.all_cons, Bool.and_eq_true, decide_eq_true_eq] at h
    have ih := fun q => dbl_units L q h.2
    simp only [Gl.units, List.flatMap_cons] at ih ⊢
    by_cases hr : r = 32
    · subst hr
      rw [unit_blank]
      simp [dbl8, dbl, ih]
    · have hu := unit_other h.1 hr
      have hrb : (r == 32) = false := by simpa using hr
      rw [dbl8_high hu.1 hu.2, ih]
      simp [dbl, hrb]
theorem pre_iff (x : UInt8) (l : List UInt8) : [32, 32].isPrefixOf (x :: l) = (x == 32 && (l.head? == some 32)) := by
  cases l with
  | nil => simp [List.isPrefixOf]
  | cons y l =>
    simp only [List.isPrefixOf, List.head?_cons, Bool.and_true]
    rw [Bool.eq_iff_iff]
    simp
    constructor
    · rintro ⟨a, b⟩; exact ⟨a.symm, b.symm⟩
    · rintro ⟨a, b⟩; exact ⟨a.symm, b.symm⟩
theorem dbl8_true (l : List UInt8) : dbl8 true l = ((l.head? == some 32) || dbl8 false l) := by
  cases l with
  | nil => rfl
  | cons x l => simp [dbl8]
theorem index_dbl : ∀ l : List UInt8, 0 ≤ Lib.index l [32, 32] ↔ dbl8 false l = true
  | [] => by decide
  | x :: l => by
    have ih := index_dbl l
    have hge := Lib.index_ge l [32, 32]
    have e : Lib.index (x :: l) [32, 32] = if [32, 32].isPrefixOf (x :: l) then 0 else if Lib.index l [32, 32] == -1 then -1 else Lib.index l [32, 32] + 1 := rfl
    have d : dbl8 false (x :: l) = dbl8 (x == 32) l := by simp [dbl8]
    have step : 0 ≤ (if Lib.index l [32, 32] == -1 then -1 else Lib.index l [32, 32] + 1) ↔ dbl8 false l = true := by
      rw [← ih]
      by_cases h1 : Lib.index l [32, 32] = -1
      · rw [h1]; decide
      · rw [if_neg (by simpa using h1)]; omega
    rw [e, d, pre_iff]
    by_cases hx : x = 32
    · subst hx
      rw [beq_self_eq_true, Bool.true_and, dbl8_true]
      cases hh : (l.head? == some 32)
      · rw [if_neg (by decide), Bool.false_or]; exact step
      · simp
    · have hxb : (x == 32) = false := by simpa using hx
      rw [hxb, Bool.false_and, if_neg (by decide)]
      exact step
theorem contains_dbl (l : List UInt8) : Lib.contains l [32, 32] = dbl8 false l := by
  unfold Lib.contains
  rw [Bool.eq_iff_iff, decide_eq_true_eq]
  exact index_dbl l
theorem unit_head {r : Int} (h : 0 ≤ Gl.script r) (t : List UInt8) : ((Gl.unit r ++ t).head? == some 32) = (r == 32) := by
  by_cases hr : r = 32
  · subst hr; rfl
  · obtain ⟨h1, h2⟩ := unit_other h hr
    have hrb : (r == 32) = false := by simpa using hr
    rw [hrb]
    cases hu : Gl.unit r with
    | nil => exact absurd hu h2
    | cons x u =>
      rw [hu] at h1
      simpa using h1 x (by simp)
theorem unit_last {r : Int} (h : 0 ≤ Gl.script r) (t : List UInt8) : ((t ++ Gl.unit r).getLast? == some 32) = (r == 32) := by
  by_cases hr : r = 32
  · subst hr; rw [unit_blank]; simp
  · obtain ⟨h1, h2⟩ := unit_other h hr
    have hrb : (r == 32) = false := by simpa using hr
    rw [hrb, List.getLast?_append]
    cases hg : (Gl.unit r).getLast? with
    | none => exact absurd (List.getLast?_eq_none_iff.1 hg) h2
    | some x => simpa using h1 x (List.mem_of_getLast? hg)
theorem units_head {L : List Int} (h : Gl.valid L = true) : ((Gl.units L).head? == some 32) = (L.head? == some 32) := by
  cases L with
  | nil => rfl
  | cons r L =>
    simp only [Gl.valid, List.all_cons, Bool.and_eq_true, decide_eq_true_eq] at h
    simp only [Gl.units, List.flatMap_cons]
    rw [unit_head h.1]
    simp
theorem units_last {L : List Int} (h : Gl.valid L = true) : ((Gl.units L).getLast? == some 32) = (L.getLast? == some 32) := by
  rcases List.eq_nil_or_concat L with rfl | ⟨M, r, rfl⟩
  · rfl
  · rw [List.concat_eq_append] at h ⊢
    rw [Gl.valid_append] at h
    simp only [Gl.valid, List.all_cons, List.all_nil, Bool.and_eq_true, decide_eq_true_eq] at h
    rw [Gl.units_append]
    have : Gl.units [r] = Gl.unit r := by simp [Gl.units]
    rw [this, unit_last h.2.1]
    simp
/-- What the program asks of the bytes is what the document asks of the code points. -/
theorem blanks_units {L : List Int} (h : Gl.valid L = true) : blanks L = ((Gl.units L).head? == some 32 || (Gl.units L).getLast? == some 32 || Lib.contains (Gl.units L) [32, 32]) := by
  rw [contains_dbl, dbl_units L false h, units_head h, units_last h]
  rfl
end Nm
end Go.Proofs.YtcbobceggjndlaaGreatDoor
namespace Go.Proofs.YtcbobceggjndlaaGreatDoor
open Go.RowKit
/-- The library's package variable holds some integer. -/
def MaxOk (w : World) : Prop := ∃ m, w.cell? ⟨1, 0, none⟩ = some (.int .i64 m)
theorem MaxOk.lt {w : World} (h : MaxOk w) : 1 < w.heap.size := by
  obtain ⟨m, h⟩ := h
  simp only [World.cell?] at h
  split at h
  · rename_i hb
    exact (Array.getElem?_eq_some_iff.1 hb).1
  · cases h
theorem MaxOk.below {w w' : World} {B : Nat} (h : MaxOk w) (hb : Below B w w') (hB : w.heap.size ≤ B) : MaxOk w' := by
  have hl := h.lt
  obtain ⟨m, h⟩ := h
  exact ⟨m, (hb.cell (p := ⟨1, 0, none⟩) (by show 1 < B; omega)).trans h⟩
theorem str_toList (s : ByteArray) : s.toList = s.data.toList := by simp [ByteArray.toList_eq]
theorem byte_32 (b : UInt8) : ((b.toNat : Int) == 32) = (some b == some 32) := by
  rw [Bool.eq_iff_iff]
  simp
  constructor
  · intro h; exact UInt8.toNat_inj.1 (by simpa using (by omega : b.toNat = 32))
  · rintro rfl; rfl
theorem byte_first (s : ByteArray) (h : 0 < s.size) : (((s[0]'h).toNat : Int) == 32) = (s.data.toList.head? == some 32) := by
  have e : s.data.toList.head? = some s[0] := by
    rw [List.head?_eq_getElem?]
    have h' : 0 < s.data.toList.length := h
    rw [List.getElem?_eq_getElem h']
    rfl
  rw [e, byte_32]
theorem byte_last (s : ByteArray) (h : 0 < s.size) : (((s[s.size - 1]'(by omega)).toNat : Int) == 32) = (s.data.toList.getLast? == some 32) := by
  have e : s.data.toList.getLast? = some (s[s.size - 1]'(by omega)) := by
    rw [List.getLast?_eq_getElem?]
    have h' : s.size - 1 < s.data.toList.length := by show s.size - 1 < s.size; omega
    rw [show s.data.toList.length - 1 = s.size - 1 from rfl, List.getElem?_eq_getElem h']
    rfl
  rw [e, byte_32]
/-- A list and an error, the list the call's own. -/
def KeyPost (L : List Int) (er : Int) (w : World) (e : Ending) (w' : World) : Prop :=
  Below w.heap.size w w' ∧ ∃ v, OI w' w.heap.size v L ∧ e = .returned (.tuple #[v, .int .i64 er])
theorem KeyPost.err {L : List Int} {er er' : Int} {w w' : World} (hb : Below w.heap.size w w') (h1 : L = []) (h2 : er = er') : KeyPost L er w (.returned (.tuple #[.slice none 0 0, .int .i64 er'])) w' := by
  subst h1
  subst h2
  exact ⟨hb, _, OI.nil _ _, rfl⟩
theorem Nm.check_long {l : List UInt8} (h : 40 < l.length) : Nm.check l = 3 := by
  unfold Nm.check
  rw [if_neg (by intro e; rw [e] at h; simp at h), if_pos h]
theorem Nm.check_none {l : List UInt8} (h1 : l ≠ []) (h2 : l.length ≤ 40) (h : Gl.decode l = none) : Nm.check l = 4 := by
  unfold Nm.check
  rw [if_neg h1, if_neg (by omega), h]
theorem Nm.check_some {l : List UInt8} {L : List Int} (h1 : l ≠ []) (h2 : l.length ≤ 40) (h : Gl.decode l = some L) : Nm.check l = if Nm.blanks L || Nm.common L then 14 else 0 := by
  unfold Nm.check
  rw [if_neg h1, if_neg (by omega), h]
theorem Nm.read_err {l : List UInt8} (h : Nm.check l ≠ 0) : Nm.read l = [] := by unfold Nm.read; rw [if_neg h]
theorem contains_k (s : ByteArray) (m : Int) (w : World) (hs : s.size < 4294967281) (hm : w.cell? ⟨1, 0, none⟩ = some (.int .i64 m)) :
    Calls Tryz.prog 66 #[.string s, .string ⟨#[32, 32]⟩] w fun e w' => e = .returned (.bool (Lib.contains s.data.toList [32, 32])) ∧ w = w' :=
  (Tryz.strings_Contains s _ m w hs hm).mono fun _ _ h => ⟨h.1, h.2.symm⟩
set_option maxHeartbeats 4000000 in
theorem read_any (s : ByteArray) (w : World) (ht : Gl.Tab w) (hm : MaxOk w) (hs : s.size ≤ 1000000000000) :
    Calls Tryz.prog 30 #[.string s] w (KeyPost (Nm.read s.data.toList) (Nm.check s.data.toList) w) := by
  go_enter Tryz.func30, Tryz.ntmps30
  by_cases h0 : s = ⟨#[]⟩
  · subst h0
    go_wp2_with fail
    go_ret2
    exact ⟨Below.refl _ _, _, OI.nil _ _, rfl⟩
  have h0d : s.data.toList ≠ [] := fun e => h0 (by cases s with | mk d => simp at e; subst e; rfl)
  have h0s : s.size ≠ 0 := fun e => h0d (List.length_eq_zero_iff.1 e)
  have h0b : s.toList.isEmpty = false := by rw [str_toList]; simpa using h0d
  by_cases hl : 40 < s.size
  · go_wp2_with fail
    go_ret2
    have e : Nm.check s.data.toList = 3 := Nm.check_long (by simpa using hl)
    exact KeyPost.err (Below.refl _ _) (Nm.read_err (by rw [e]; decide)) e
  go_wp2_with (go_at_call 65; refine (gdecode_any _ _ ht (by omega)).mono ?_)
  intro e w1 hp1
  obtain ⟨hb1, v1, ho1, rfl⟩ := hp1.form
  have ht1 := ht.below hb1 (Nat.le_refl _)
  have hm1 := hm.below hb1 (Nat.le_refl _)
  have hl2 : s.data.toList.length ≤ 40 := by show s.size ≤ 40; omega
  obtain ⟨o1, e1⟩ : ∃ o, Gl.decode s.data.toList = o := ⟨_, rfl⟩
  have E1 := Lib.hid e1
  rw [e1] at ho1
  rw [e1]
  clear e1 hp1
  cases o1 with
  | none =>
    rw [errOf_none]
    have hck := Nm.check_none h0d hl2 E1.out
    go_wp2_with fail
    go_ret2
    exact KeyPost.err hb1 (Nm.read_err (by rw [hck]; decide)) hck
  | some L =>
  rw [errOf_some]
  replace ho1 : OI w1 w.heap.size v1 L := ho1
  obtain ⟨nL, hnL⟩ : ∃ n, L.length = n := ⟨_, rfl⟩
  obtain ⟨A1, c1, rfl, _, hR1, _⟩ := ho1.form_n hnL
  have hck := Nm.check_some h0d hl2 E1.out
  obtain ⟨hv, hu⟩ := (Gl.decode_iff _ _).1 E1.out
  have hbl := Nm.blanks_units hv
  rw [← hu] at hbl
  clear hu
  obtain ⟨m, hmm⟩ := hm1
  have hsz : s.size < 4294967281 := by omega
  have hp0 : 0 < s.size := by omega
  have hn40 : nL ≤ 40 := by rw [← hnL]; have := Gl.decode_len s.data.toList; rw [E1.out] at this; exact Nat.le_trans this hl2
  have f0 : (((s[0]'hp0).toNat : Int) == 32) = (s.data.toList.head? == some 32) := byte_first s hp0
  have f1 : (((s[s.size - 1]'(by omega)).toNat : Int) == 32) = (s.data.toList.getLast? == some 32) := byte_last s hp0
  rcases Bool.eq_false_or_eq_true (s.data.toList.head? == some 32) with g0 | g0
  · have f0' := f0.trans g0
    have hB : Nm.check s.data.toList = 14 := by rw [hck, hbl, g0]; rfl
    clear f0 f1 hck hbl
    go_wp2_with fail
    go_ret2
    exact KeyPost.err hb1 (Nm.read_err (by rw [hB]; decide)) hB
  have f0' := f0.trans g0
  rcases Bool.eq_false_or_eq_true (s.data.toList.getLast? == some 32) with g1 | g1
  · have f1' := f1.trans g1
    have hB : Nm.check s.data.toList = 14 := by rw [hck, hbl, g0, g1]; rfl
    clear f0 f1 hck hbl
    go_wp2_with fail
    go_ret2
    exact KeyPost.err hb1 (Nm.read_err (by rw [hB]; decide)) hB
  have f1' := f1.trans g1
  clear f0 f1
  rcases Bool.eq_false_or_eq_true (Lib.contains s.data.toList [32, 32]) with g2 | g2
  · have hB : Nm.check s.data.toList = 14 := by rw [hck, hbl, g0, g1, g2]; rfl
    clear hck hbl
    go_wp2_with (go_at_call 66; refine (contains_k s m _ hsz hmm).mono ?_; first | rintro e w' rfl rfl | rintro e w' ⟨rfl, rfl⟩)
    go_ret2
    exact KeyPost.err hb1 (Nm.read_err (by rw [hB]; decide)) hB
  have hck2 : Nm.check s.data.toList = if Nm.common L then 14 else 0 := by rw [hck, hbl, g0, g1, g2]; rfl
  have HCK := Lib.hid hck2
  clear hck hbl hck2
  go_wp2_with (go_at_call 66; refine (contains_k s m _ hsz hmm).mono ?_; first | rintro e w' rfl rfl | rintro e w' ⟨rfl, rfl⟩)
  go_loopw [2, 5, 36] (fun lv rv iv wr => ∃ i : Nat, lv = .slice A1 nL c1 ∧ iv = .int .i64 i ∧ i ≤ nL ∧ Hid (∀ k, k < i → Gl.script (gi L k) = 0) ∧ Below w1.heap.size w1 wr) (fun _ _ iv _ => nL - (intOf iv).toNat)
  case atStart => exact ⟨0, rfl, rfl, by omega, fun k hk => absurd hk (by omega), Below.refl _ _⟩
  case round =>
    obtain ⟨i, rfl, rfl, hi, hall, hbw⟩ := hrel
    by_cases hlt : i < nL
    · obtain ⟨b1, o1, rfl, hbb1, hc1⟩ := hR1 i (by omega)
      have c1 := (hbw.cell (p := ⟨b1, o1 + i, none⟩) hbb1).trans (hc1 i (by omega))
      clear hc1
      have htr := ht1.below hbw (Nat.le_refl _)
      have hbr : Below w.heap.size w wr := hb1.trans (hbw.mono hb1.size)
      by_cases hsc : Gl.script (gi L i) = 0
      · have hsb : (Gl.script (gi L i) != 0) = false := by simp [hsc]
        have HS := Lib.hid hsc
        clear hsc
        go_wp2_with (go_at_call 67; refine (gscript_any _ _ htr).mono ?_; first | rintro e w2 rfl hb2 | rintro e w2 ⟨rfl, hb2⟩)
        go_roundw
        case rel => exact ⟨i + 1, rfl, by go_num, by omega, fun k hk => (Nat.lt_or_eq_of_le (Nat.le_of_lt_succ hk)).elim (hall.out k) (fun e => by rw [e]; exact HS.out), hbw.trans (hb2.mono hbw.size)⟩
        case measure => simp [intOf]; omega
      · have hsb : (Gl.script (gi L i) != 0) = true := by simp [hsc]
        have hcm : Nm.common L = false := by
          unfold Nm.common
          rw [List.all_eq_false]
          have hlt' : i < L.length := by omega
          refine ⟨L[i], List.getElem_mem hlt', ?_⟩
          rw [← gi_eq hlt']
          simpa using hsc
        have hK : Nm.check s.data.toList = 0 := by rw [HCK.out, hcm]; rfl
        have hRd : Nm.read s.data.toList = L := by unfold Nm.read; rw [if_pos hK, E1.out]; rfl
        have HK := Lib.hid hK
        have HR := Lib.hid hRd
        clear hK hRd hcm
        go_wp2_with (go_at_call 67; refine (gscript_any _ _ htr).mono ?_; first | rintro e w2 rfl hb2 | rintro e w2 ⟨rfl, hb2⟩)
        go_ret2
        exact ⟨hbr.trans (hb2.mono hbr.size), _, by rw [HR.out]; exact ho1.below (hbw.trans (hb2.mono hbw.size)) (Nat.le_refl _), by rw [HK.out]; rfl⟩
    · have hcm : Nm.common L = true := by
        unfold Nm.common
        rw [List.all_eq_true]
        intro x hx
        obtain ⟨k, hk, rfl⟩ := List.mem_iff_getElem.1 hx
        have := hall.out k (by omega)
        rw [gi_eq hk] at this
        simpa using this
      have hK : Nm.check s.data.toList = 14 := by rw [HCK.out, hcm]; rfl
      go_wp2_with fail
      go_ret2
      exact KeyPost.err (hb1.trans (hbw.mono hb1.size)) (Nm.read_err (by rw [hK]; decide)) hK
end Go.Proofs.YtcbobceggjndlaaGreatDoor
namespace Go.Proofs.YtcbobceggjndlaaGreatDoor
open Go.RowKit
theorem ncheck_any (s : ByteArray) (w : World) (ht : Gl.Tab w) (hm : MaxOk w) (hs : s.size ≤ 1000000000000) :
    Calls Tryz.prog 13 #[.string s] w fun e w' => e = .returned (.int .i64 (Nm.check s.data.toList)) ∧ Below w.heap.size w w' := by
  go_enter Tryz.func13, Tryz.ntmps13
  go_wp2_with (go_at_call 30; refine (read_any _ _ ht hm hs).mono ?_)
  rintro e w1 ⟨hb1, v1, ho1, rfl⟩
  go_wp2_with fail
  go_ret
  exact ⟨rfl, hb1⟩
theorem rmark_any (r : Int) (w : World) :
    Calls Tryz.prog 96 #[.int .i64 r] w fun e w' => e = .returned (.bool (Nm.mark r)) ∧ w = w' := by
  go_enter Tryz.func96, Tryz.ntmps96
  go_wp2_with fail
  all_goals go_ret
  all_goals exact ⟨ret_bool (by simp_all [Nm.mark]), rfl⟩
set_option maxHeartbeats 2000000 in
theorem rcommon_any (A : Option Addr) (c n : Nat) (L : List Int) (w : World) (hn : L.length = n) (hA : RI w A L) (hx : n ≤ 1000000000000000) :
    Calls Tryz.prog 37 #[.slice A n c] w fun e w' => e = .returned (.bool (Nm.common L)) ∧ w = w' := by
  subst hn
  go_enter Tryz.func37, Tryz.ntmps37
  go_wp2_with fail
  go_loopw [3] (fun iv wr => ∃ i : Nat, iv = .int .i64 i ∧ i ≤ L.length ∧ Hid (∀ k, k < i → Gl.script (gi L k) = 0) ∧ w = wr) (fun iv _ => L.length - (intOf iv).toNat)
  case atStart => exact ⟨0, rfl, by omega, fun k hk => absurd hk (by omega), rfl⟩
  case round =>
    obtain ⟨i, rfl, hi, hall, rfl⟩ := hrel
    by_cases hlt : i < L.length
    · obtain ⟨b1, o1, rfl, hbb1, hc1⟩ := hA i hlt
      have c1 := hc1 i hlt
      clear hc1 hA
      by_cases hsc : Gl.script (gi L i) = 0
      · have hsb : (Gl.script (gi L i) != 0) = false := by simp [hsc]
        have HS := Lib.hid hsc
        clear hsc
        go_wp2_with (go_at_call 72; refine (rscript_any _ _).mono ?_; first | rintro e w2 rfl rfl | rintro e w2 ⟨rfl, rfl⟩)
        go_roundw
        case rel => exact ⟨i + 1, by go_num, by omega, fun k hk => (Nat.lt_or_eq_of_le (Nat.le_of_lt_succ hk)).elim (hall.out k) (fun e => by rw [e]; exact HS.out), trivial⟩
        case measure => simp [intOf]; omega
      · have hsb : (Gl.script (gi L i) != 0) = true := by simp [hsc]
        have hcm : Nm.common L = false := by
          unfold Nm.common
          rw [List.all_eq_false]
          refine ⟨L[i], List.getElem_mem hlt, ?_⟩
          rw [← gi_eq hlt]
          simpa using hsc
        have HC := Lib.hid hcm
        clear hcm
        go_wp2_with (go_at_call 72; refine (rscript_any _ _).mono ?_; first | rintro e w2 rfl rfl | rintro e w2 ⟨rfl, rfl⟩)
        go_ret
        exact ⟨ret_bool HC.out.symm, rfl⟩
    · have hcm : Nm.common L = true := by
        unfold Nm.common
        rw [List.all_eq_true]
        intro x hx
        obtain ⟨k, hk, rfl⟩ := List.mem_iff_getElem.1 hx
        have := hall.out k (by omega)
        rw [gi_eq hk] at this
        simpa using this
      have HC := Lib.hid hcm
      clear hcm
      go_wp2_with fail
      go_ret
      exact ⟨ret_bool HC.out.symm, rfl⟩
theorem dbl_some {L : List Int} {k : Nat} (h : k + 1 < L.length) (h1 : gi L k = 32) (h2 : gi L (k + 1) = 32) : ∀ p, Nm.dbl p L = true := by
  induction k generalizing L with
  | zero =>
    intro p
    match L, h with
    | x :: y :: t, _ =>
      have e1 : x = 32 := h1
      have e2 : y = 32 := h2
      simp [Nm.dbl, e1, e2]
  | succ k ih =>
    intro p
    match L, h with
    | x :: t, h =>
      have := ih (L := t) (by simpa using h) h1 h2 (x == 32)
      simp [Nm.dbl, this]
theorem dbl_none : ∀ {L : List Int} (p : Bool), (p = true → gi L 0 ≠ 32 ∨ L = []) → (∀ k, k + 1 < L.length → ¬ (gi L (k + 1) = 32 ∧ gi L k = 32)) → Nm.dbl p L = false
  | [], p, _, _ => rfl
  | x :: t, p, hp, h => by
    have h1 : (p && x == 32) = false := by
      cases p with
      | false => rfl
      | true => simpa using (hp rfl).elim (fun h : x ≠ 32 => h) (fun h => by cases h)
    have h2 : Nm.dbl (x == 32) t = false := by
      refine dbl_none _ (fun e => ?_) (fun k hk hh => h (k + 1) (by simpa using hk) hh)
      cases t with
      | nil => exact Or.inr rfl
      | cons y t =>
        refine Or.inl (fun hy => h 0 (by simp) ⟨hy, ?_⟩)
        show x = 32
        simpa using e
    simp [Nm.dbl, h1, h2]
theorem blanks_split {L : List Int} (h : 0 < L.length) : Nm.blanks L = ((gi L 0 == 32) || (gi L (L.length - 1) == 32) || Nm.dbl false L) := by
  have e1 : (L.head? == some 32) = (gi L 0 == 32) := by
    rw [List.head?_eq_getElem?, List.getElem?_eq_getElem h, gi_eq h]
    rfl
  have e2 : (L.getLast? == some 32) = (gi L (L.length - 1) == 32) := by
    rw [List.getLast?_eq_getElem?, List.getElem?_eq_getElem (by omega), gi_eq (by omega)]
    rfl
  unfold Nm.blanks
  rw [e1, e2]
set_option maxHeartbeats 4000000 in
theorem rblanks_any (A : Option Addr) (c n : Nat) (L : List Int) (w : World) (hn : L.length = n) (hA : RI w A L) (h0 : 0 < n) (hx : n ≤ 1000000000000000) :
    Calls Tryz.prog 36 #[.slice A n c] w fun e w' => e = .returned (.bool (Nm.blanks L)) ∧ w = w' := by
  subst hn
  have HB := Lib.hid (blanks_split h0)
  obtain ⟨b1, o1, rfl, hbb1, hc1⟩ := hA 0 h0
  have c0 : w.cell? ⟨b1, o1, none⟩ = some (.int .i64 (gi L 0)) := hc1 0 h0
  have cl := hc1 (L.length - 1) (by omega)
  have HC := Lib.hid hc1
  clear hc1 hA
  go_enter Tryz.func36, Tryz.ntmps36
  by_cases hz : gi L 0 = 32
  · have hzb : (gi L 0 == 32) = true := by simp [hz]
    have HE : Hid (Nm.blanks L = true) := Lib.hid (by rw [HB.out, hzb]; rfl)
    clear hz
    go_wp2_with fail
    go_ret
    exact ⟨ret_bool HE.out.symm, rfl⟩
  have hzb : (gi L 0 == 32) = false := by simp [hz]
  by_cases hy : gi L (L.length - 1) = 32
  · have hyb : (gi L (L.length - 1) == 32) = true := by simp [hy]
    have HE : Hid (Nm.blanks L = true) := Lib.hid (by rw [HB.out, hzb, hyb]; rfl)
    clear hz hy
    go_wp2_with fail
    go_ret
    exact ⟨ret_bool HE.out.symm, rfl⟩
  have hyb : (gi L (L.length - 1) == 32) = false := by simp [hy]
  have HD : Hid (Nm.blanks L = Nm.dbl false L) := Lib.hid (by rw [HB.out, hzb, hyb]; rfl)
  clear hz hy HB
  go_wp2_with fail
  go_loopw [3] (fun iv wr => ∃ i : Nat, iv = .int .i64 (i + 1 : Nat) ∧ i + 1 ≤ L.length ∧ Hid (∀ k, k < i → ¬ (gi L (k + 1) = 32 ∧ gi L k = 32)) ∧ w = wr) (fun iv _ => L.length - (intOf iv).toNat)
  case atStart => exact ⟨0, rfl, by omega, fun k hk => absurd hk (by omega), rfl⟩
  case round =>
    obtain ⟨i, rfl, hi, hall, rfl⟩ := hrel
    have ei : ((i + 1 : Nat) : Int) = (i : Int) + 1 := by omega
    rw [ei]
    clear ei
    by_cases hlt : i + 1 < L.length
    · have c1 := HC.out (i + 1) hlt
      have c2 := HC.out i (by omega)
      by_cases h1 : gi L (i + 1) = 32
      · have h1b : (gi L (i + 1) == 32) = true := by simp [h1]
        by_cases h2 : gi L i = 32
        · have h2b : (gi L i == 32) = true := by simp [h2]
          have HE : Hid (Nm.dbl false L = true) := Lib.hid (dbl_some hlt h2 h1 false)
          clear h1 h2
          go_wp2_with fail
          go_ret
          exact ⟨ret_bool (by rw [HD.out, HE.out]), rfl⟩
        · have h2b : (gi L i == 32) = false := by simp [h2]
          have HN := Lib.hid h2
          clear h1 h2
          go_wp2_with fail
          go_roundw
          case rel => exact ⟨i + 1, by go_num, by omega, fun k hk => (Nat.lt_or_eq_of_le (Nat.le_of_lt_succ hk)).elim (hall.out k) (fun e => by rw [e]; exact fun h => HN.out h.2), trivial⟩
          case measure => simp [intOf]; omega
      · have h1b : (gi L (i + 1) == 32) = false := by simp [h1]
        have HN := Lib.hid h1
        clear h1
        go_wp2_with fail
        go_roundw
        case rel => exact ⟨i + 1, by go_num, by omega, fun k hk => (Nat.lt_or_eq_of_le (Nat.le_of_lt_succ hk)).elim (hall.out k) (fun e => by rw [e]; exact fun h => HN.out h.1), trivial⟩
        case measure => simp [intOf]; omega
    · have HE : Hid (Nm.dbl false L = false) := Lib.hid (dbl_none false (fun h => by cases h) (fun k hk => hall.out k (by omega)))
      go_wp2_with fail
      go_ret
      exact ⟨ret_bool (by rw [HD.out, HE.out]), rfl⟩
end Go.Proofs.YtcbobceggjndlaaGreatDoor
namespace Go.Proofs.YtcbobceggjndlaaGreatDoor
open Go.RowKit
theorem Nm.read_ok {l : List UInt8} (h : Nm.check l = 0) : Gl.decode l = some (Nm.read l) ∧ (∀ x ∈ Nm.read l, 0 ≤ Gl.script x) ∧ (Nm.read l).length ≤ 40 := by
  have h0 : l ≠ [] := fun e => by rw [e] at h; exact absurd h (by decide)
  have h1 : l.length ≤ 40 := Nat.le_of_not_lt fun e => by rw [Nm.check_long e] at h; exact absurd h (by decide)
  cases hd : Gl.decode l with
  | none => rw [Nm.check_none h0 h1 hd] at h; exact absurd h (by decide)
  | some L =>
    have e : Nm.read l = L := by unfold Nm.read; rw [if_pos h, hd]; rfl
    rw [e]
    obtain ⟨hv, hu⟩ := (Gl.decode_iff l L).1 hd
    refine ⟨rfl, fun x hx => ?_, ?_⟩
    · have := List.all_eq_true.1 hv x hx
      simpa using this
    · have := (Gl.units_len L).1
      rw [← hu] at this
      omega
theorem Nm.dec_ne {l : List UInt8} {L : List Int} (h : Gl.decode l = some L) (h0 : l ≠ []) : 0 < L.length := by
  obtain ⟨_, hu⟩ := (Gl.decode_iff l L).1 h
  cases L with
  | nil => exact absurd hu (by simpa [Gl.units] using h0)
  | cons x t => simp
set_option maxHeartbeats 4000000 in
theorem rcheck_any (s : ByteArray) (w : World) (hs : s.size ≤ 1000000000000) :
    Calls Tryz.prog 16 #[.string s] w fun e w' => e = .returned (.int .i64 (Nm.check s.data.toList)) ∧ Below w.heap.size w w' := by
  go_enter Tryz.func16, Tryz.ntmps16
  by_cases h0 : s = ⟨#[]⟩
  · subst h0
    go_wp2_with fail
    go_ret
    exact ⟨rfl, Below.refl _ _⟩
  have h0d : s.data.toList ≠ [] := fun e => h0 (by cases s with | mk d => simp at e; subst e; rfl)
  have h0b : s.toList.isEmpty = false := by rw [str_toList]; simpa using h0d
  by_cases hl : 40 < s.size
  · go_wp2_with fail
    go_ret
    exact ⟨ret_int (Nm.check_long (by simpa using hl)).symm, Below.refl _ _⟩
  go_wp2_with (go_at_call 35; refine (rdecode_any _ _ (by omega)).mono ?_)
  intro e w1 hp1
  obtain ⟨hb1, v1, ho1, rfl⟩ := hp1.form
  have hl2 : s.data.toList.length ≤ 40 := by show s.size ≤ 40; omega
  obtain ⟨o1, e1⟩ : ∃ o, Gl.decode s.data.toList = o := ⟨_, rfl⟩
  have E1 := Lib.hid e1
  rw [e1] at ho1
  rw [e1]
  clear e1 hp1
  cases o1 with
  | none =>
    rw [errOf_none]
    have hck := Nm.check_none h0d hl2 E1.out
    go_wp2_with fail
    go_ret
    exact ⟨ret_int hck.symm, hb1⟩
  | some L =>
  rw [errOf_some]
  replace ho1 : OI w1 w.heap.size v1 L := ho1
  have hn40 : L.length ≤ 40 := by have := Gl.decode_len s.data.toList; rw [E1.out] at this; exact Nat.le_trans this hl2
  have hpos := Nm.dec_ne E1.out h0d
  have hck := Nm.check_some h0d hl2 E1.out
  obtain ⟨nL, hnL⟩ : ∃ n, L.length = n := ⟨_, rfl⟩
  rw [hnL] at hn40 hpos
  obtain ⟨A1, c1, rfl, _, hR1, _⟩ := ho1.form_n hnL
  have hne : ((nL : Int) == 0) = false := by simp; omega
  have HN := Lib.hid hnL
  clear hnL
  rcases Bool.eq_false_or_eq_true (Nm.blanks L) with g | g
  · have hck2 : Nm.check s.data.toList = 14 := by rw [hck, g]; rfl
    clear hck
    go_wp2_with (go_at_call 36; refine (rblanks_any _ _ nL L _ HN.out hR1 (by omega) (by omega)).mono ?_; first | rintro e w' rfl rfl | rintro e w' ⟨rfl, rfl⟩)
    go_ret
    exact ⟨ret_int hck2.symm, hb1⟩
  rcases Bool.eq_false_or_eq_true (Nm.common L) with g2 | g2
  · have hck2 : Nm.check s.data.toList = 14 := by rw [hck, g, g2]; rfl
    clear hck
    go_wp2_with (first | (go_at_call 36; refine (rblanks_any _ _ nL L _ HN.out hR1 (by omega) (by omega)).mono ?_; first | rintro e w' rfl rfl | rintro e w' ⟨rfl, rfl⟩) | (go_at_call 37; refine (rcommon_any _ _ nL L _ HN.out hR1 (by omega)).mono ?_; first | rintro e w' rfl rfl | rintro e w' ⟨rfl, rfl⟩))
    go_ret
    exact ⟨ret_int hck2.symm, hb1⟩
  have hck2 : Nm.check s.data.toList = 0 := by rw [hck, g, g2]; rfl
  clear hck
  go_wp2_with (first | (go_at_call 36; refine (rblanks_any _ _ nL L _ HN.out hR1 (by omega) (by omega)).mono ?_; first | rintro e w' rfl rfl | rintro e w' ⟨rfl, rfl⟩) | (go_at_call 37; refine (rcommon_any _ _ nL L _ HN.out hR1 (by omega)).mono ?_; first | rintro e w' rfl rfl | rintro e w' ⟨rfl, rfl⟩))
  go_ret
  exact ⟨ret_int hck2.symm, hb1⟩
theorem OI.fresh (w : World) {B : Nat} (hB : B ≤ w.heap.size) : OI (w.alloc (.cells #[] 3)) B (.slice (some ⟨w.heap.size, 0, none⟩) 0 0) [] :=
  OI.of_blk (xs := []) (sp := []) (cap := 0) (heap_alloc_new w _) hB (by unfold maxLen; omega) rfl
theorem key_skip {L : List Int} {i : Nat} (h : i < L.length) (hm : Nm.mark (gi L i) = true) : Nm.keyOf (L.take (i + 1)) = Nm.keyOf (L.take i) := by
  rw [take_gi h]; simp [Nm.keyOf, hm]
theorem key_take {L : List Int} {i : Nat} (h : i < L.length) (hm : Nm.mark (gi L i) = false) : Nm.keyOf (L.take (i + 1)) = Nm.keyOf (L.take i) ++ [Gl.fold (gi L i)] := by
  rw [take_gi h]; simp [Nm.keyOf, hm]
theorem key_end {L : List Int} {i : Nat} (h : L.length ≤ i) : Nm.keyOf (L.take i) = Nm.keyOf L := by rw [List.take_of_length_le h]
set_option maxHeartbeats 4000000 in
theorem rkey_any (s : ByteArray) (w : World) (hs : s.size ≤ 1000000000000) :
    Calls Tryz.prog 74 #[.string s] w (KeyPost (Nm.key s.data.toList) (Nm.check s.data.toList) w) := by
  go_enter Tryz.func74, Tryz.ntmps74
  go_wp2_with (go_at_call 16; refine (rcheck_any _ _ hs).mono ?_)
  first | rintro e w1 rfl hb1 | rintro e w1 ⟨rfl, hb1⟩
  by_cases hc0 : Nm.check s.data.toList = 0
  rotate_left
  · have hcb : (Nm.check s.data.toList != 0) = true := by simp [hc0]
    have hk : Nm.key s.data.toList = [] := by unfold Nm.key; rw [Nm.read_err hc0]; rfl
    go_wp2_with fail
    go_ret2
    exact KeyPost.err hb1 hk rfl
  obtain ⟨hd, hv, h40⟩ := Nm.read_ok hc0
  obtain ⟨L, hL⟩ : ∃ L, Nm.read s.data.toList = L := ⟨_, rfl⟩
  have HK : Hid (Nm.key s.data.toList = Nm.keyOf L) := Lib.hid (by unfold Nm.key; rw [hL])
  have HC := Lib.hid hc0
  rw [hL] at hd hv h40
  rw [hc0]
  clear hL hc0
  go_wp2_with (go_at_call 35; refine (rdecode_any _ _ (by omega)).mono ?_)
  intro e w2 hp2
  obtain ⟨hb2, v2, ho2, rfl⟩ := hp2.form
  rw [hd] at ho2 ⊢
  rw [errOf_some]
  replace ho2 : OI w2 w1.heap.size v2 L := ho2
  have hb02 : Below w.heap.size w w2 := hb1.trans (hb2.mono hb1.size)
  obtain ⟨nL, hnL⟩ : ∃ n, L.length = n := ⟨_, rfl⟩
  rw [hnL] at h40
  obtain ⟨A1, c1, rfl, _, hR1, _⟩ := ho2.form_n hnL
  have HN := Lib.hid hnL
  have HV := Lib.hid hv
  clear hnL hv hd hp2
  go_wp2_with fail
  go_loopw [7, 8] (fun v iv wr => ∃ (i : Nat) (acc : List Int), iv = .int .i64 i ∧ i ≤ nL ∧ OI wr w2.heap.size v acc ∧ Hid (Nm.keyOf (L.take i) = acc) ∧ acc.length ≤ i ∧ Below w2.heap.size w2 wr) (fun _ iv _ => nL - (intOf iv).toNat)
  case atStart => exact ⟨0, [], rfl, by omega, OI.fresh _ (Nat.le_refl _), rfl, by simp, (Below.refl _ _).alloc (Nat.le_refl _) _⟩
  case round =>
    obtain ⟨i, acc, rfl, hi, hown, hacc, hal, hbw⟩ := hrel
    have hsz := hbw.size
    have hb0r : Below w.heap.size w wr := hb02.trans (hbw.mono hb02.size)
    by_cases hlt : i < nL
    · have hltL : i < L.length := by rw [HN.out]; exact hlt
      obtain ⟨b1, o1, rfl, hbb1, hc1⟩ := hR1 i hltL
      have cc := (hbw.cell (p := ⟨b1, o1 + i, none⟩) hbb1).trans (hc1 i hltL)
      have hsc : 0 ≤ Gl.script (gi L i) := by rw [gi_eq hltL]; exact HV.out _ (List.getElem_mem hltL)
      have hrg := Gl.script_bounds hsc
      clear hc1 hsc
      rcases Bool.eq_false_or_eq_true (Nm.mark (gi L i)) with hmk | hmk
      · have HS := Lib.hid (key_skip hltL hmk)
        clear hltL
        go_wp2_with (go_at_call 96; refine (rmark_any _ _).mono ?_; first | rintro e w' rfl rfl | rintro e w' ⟨rfl, rfl⟩)
        go_roundw
        case rel => exact ⟨i + 1, acc, by go_num, by omega, hown, by show _ = _; rw [HS.out, hacc.out], by omega, hbw⟩
        case measure => simp [intOf]; omega
      · have HS := Lib.hid (key_take hltL hmk)
        clear hltL
        go_wp2_with (first | (go_at_call 96; refine (rmark_any _ _).mono ?_; first | rintro e w' rfl rfl | rintro e w' ⟨rfl, rfl⟩) | (go_at_call 97; refine (rfold_any _ _ (by omega) (by omega)).mono ?_; first | rintro e w' rfl rfl | rintro e w' ⟨rfl, rfl⟩) | (at_builtin; refine append_int rfl _ _ rfl wr w2.heap.size u7 acc (Gl.fold (gi L i)) rfl hown rfl (by omega) hsz ?_; intro v' w3 hown3 hb3 hg3))
        go_roundw
        case rel => exact ⟨i + 1, acc ++ [Gl.fold (gi L i)], by go_num, by omega, hown3, by show _ = _; rw [HS.out, hacc.out], by simp; omega, hbw.trans hb3⟩
        case measure => simp [intOf]; omega
    · have HF : Hid (Nm.key s.data.toList = acc) := Lib.hid (by rw [HK.out, ← key_end (i := i) (by rw [HN.out]; omega), hacc.out])
      go_wp2_with fail
      go_ret2
      exact ⟨hb0r, _, by rw [HF.out]; exact hown.mono hb02.size, by rw [HC.out]; rfl⟩
end Go.Proofs.YtcbobceggjndlaaGreatDoor
namespace Go.Proofs.YtcbobceggjndlaaGreatDoor
open Go.RowKit
/-- The marks, as the program ranges over them. -/
def marksS : ByteArray := ⟨#[32, 39, 40, 41, 45, 46]⟩
def mkAt (p : Nat) : Nat := [32, 39, 40, 41, 45, 46].getD p 0
theorem marks_dec : ∀ p, p < 6 → Utf8.decode marksS p = (mkAt p, 1) := by decide
theorem mark_iff (r : Int) : Nm.mark r = true ↔ ∃ p, p < 6 ∧ r = (mkAt p : Int) := by
  constructor
  · intro h
    simp [Nm.mark] at h
    rcases h with ((((h | h) | h) | h) | h) | h
    · exact ⟨0, by decide, h⟩
    · exact ⟨1, by decide, h⟩
    · exact ⟨2, by decide, h⟩
    · exact ⟨3, by decide, h⟩
    · exact ⟨4, by decide, h⟩
    · exact ⟨5, by decide, h⟩
  · rintro ⟨p, hp, rfl⟩
    have : p = 0 ∨ p = 1 ∨ p = 2 ∨ p = 3 ∨ p = 4 ∨ p = 5 := by omega
    rcases this with rfl | rfl | rfl | rfl | rfl | rfl <;> rfl
theorem mkAt_le (p : Nat) (h : p < 6) : mkAt p ≤ 46 := by
  have : p = 0 ∨ p = 1 ∨ p = 2 ∨ p = 3 ∨ p = 4 ∨ p = 5 := by omega
  rcases this with rfl | rfl | rfl | rfl | rfl | rfl <;> decide
set_option maxHeartbeats 8000000 in
theorem nkey_any (s : ByteArray) (w : World) (ht : Gl.Tab w) (hm : MaxOk w) (hs : s.size ≤ 1000000000000) :
    Calls Tryz.prog 63 #[.string s] w (KeyPost (Nm.key s.data.toList) (Nm.check s.data.toList) w) := by
  go_enter Tryz.func63, Tryz.ntmps63
  go_wp2_with fail
  go_step3
  go_wp2_with (go_at_call 30; refine (read_any _ _ ht hm hs).mono ?_)
  rintro e w1 ⟨hb1, v1, ho1, rfl⟩
  by_cases hc0 : Nm.check s.data.toList = 0
  rotate_left
  · have hcb : (Nm.check s.data.toList != 0) = true := by simp [hc0]
    have hk : Nm.key s.data.toList = [] := by unfold Nm.key; rw [Nm.read_err hc0]; rfl
    go_wp2_with fail
    rw [Exit.noGoto_ret]
    go_ret2
    exact KeyPost.err hb1 hk rfl
  obtain ⟨hd, hv, h40⟩ := Nm.read_ok hc0
  obtain ⟨L, hL⟩ : ∃ L, Nm.read s.data.toList = L := ⟨_, rfl⟩
  have HK : Hid (Nm.key s.data.toList = Nm.keyOf L) := Lib.hid (by unfold Nm.key; rw [hL])
  have HC := Lib.hid hc0
  rw [hL] at hd hv h40 ho1
  rw [hc0]
  clear hL hc0 hd
  obtain ⟨nL, hnL⟩ : ∃ n, L.length = n := ⟨_, rfl⟩
  rw [hnL] at h40
  obtain ⟨A1, c1, rfl, _, hR1, _⟩ := ho1.form_n hnL
  have HN := Lib.hid hnL
  have HV := Lib.hid hv
  clear hnL hv
  go_wp2_with fail
  go_step3
  go_wp2_with fail
  go_loopw [2, 6, 8, 19] (fun v rv mv iv wr => ∃ (i : Nat) (acc : List Int), iv = .int .i64 i ∧ i ≤ nL ∧ OI wr w1.heap.size v acc ∧ Hid (Nm.keyOf (L.take i) = acc) ∧ acc.length ≤ i ∧ Below w1.heap.size w1 wr) (fun _ _ _ iv _ => nL - (intOf iv).toNat)
  case atStart => exact ⟨0, [], rfl, by omega, OI.nil _ _, rfl, by simp, Below.refl _ _⟩
  case round =>
    obtain ⟨i, acc, rfl, hi, hown, hacc, hal, hbw⟩ := hrel
    have hsz := hbw.size
    have hb0r : Below w.heap.size w wr := hb1.trans (hbw.mono hb1.size)
    by_cases hlt : i < nL
    · have hltL : i < L.length := by rw [HN.out]; exact hlt
      obtain ⟨b1, o1, rfl, hbb1, hc1⟩ := hR1 i hltL
      have cc := (hbw.cell (p := ⟨b1, o1 + i, none⟩) hbb1).trans (hc1 i hltL)
      have hsc : 0 ≤ Gl.script (gi L i) := by rw [gi_eq hltL]; exact HV.out _ (List.getElem_mem hltL)
      have hrg := Gl.script_bounds hsc
      clear hc1 hsc
      obtain ⟨wo, rfl⟩ : ∃ wo : World, wo = wr := ⟨_, rfl⟩
      go_wp2_with fail
      go_loopw [8] (fun mv wx => ∃ p : Nat, p ≤ 6 ∧ wx.heap[wo.heap.size]? = some (.stringIter marksS p) ∧ Below wo.heap.size wo wx ∧ wx.heap.size = wo.heap.size + 1 ∧ Hid (∀ k, k < p → gi L i ≠ (mkAt k : Int))) (fun _ wx => 6 - wx.iterPos wo.heap.size)
      case atStart => exact ⟨0, by omega, World.iter_heap wo marksS 0, (Below.refl _ wo).alloc (Nat.le_refl _) _, by simp [World.iter], fun k hk => absurd hk (by omega)⟩
      case round =>
        obtain ⟨p, hp, hit, hbx, hzx, hno⟩ := hrel
        by_cases hp6 : p < 6
        · have hnx : ∀ ty, (Instr.next (.pointer (some ⟨wo.heap.size, 0, none⟩)) true ty).run Tryz.prog wr = .ok (.tuple #[.bool true, .int .i64 p, .int .i32 (mkAt p)]) (wr.iterAt wo.heap.size marksS (p + 1)) := fun ty => by
            have := Lib.run_next_any_at (P := Tryz.prog) wr wo.heap.size marksS p ty hit hp6
            rw [marks_dec p hp6] at this
            exact this
          have hit2 := Lib.iterAt_heap wr wo.heap.size marksS p (p + 1) hit
          have hbx2 := Lib.below_iterAt hbx (k := wo.heap.size) (Nat.le_refl _) marksS (p + 1)
          have hz2 := Lib.iterAt_size wr wo.heap.size marksS (p + 1)
          have hml := mkAt_le p hp6
          by_cases he : gi L i = (mkAt p : Int)
          · have heb : (gi L i == (mkAt p : Int)) = true := by simp [he]
            have HS := Lib.hid (key_skip hltL ((mark_iff _).2 ⟨p, hp6, he⟩))
            clear hltL he
            go_wp2_with fail
            go_roundw
            case rel => exact ⟨i + 1, acc, by go_num, by omega, hown.below hbx2 (Nat.le_refl _), by show _ = _; rw [HS.out, hacc.out], by omega, hbw.trans (hbx2.mono hsz)⟩
            case measure => simp [intOf]; omega
          · have heb : (gi L i == (mkAt p : Int)) = false := by simp [he]
            have HE := Lib.hid he
            clear he
            go_wp2_with fail
            go_roundw
            case rel => exact ⟨p + 1, by omega, hit2, hbx2, by omega, fun k hk => (Nat.lt_or_eq_of_le (Nat.le_of_lt_succ hk)).elim (hno.out k) (fun e => by rw [e]; exact HE.out)⟩
            case measure =>
              simp only [World.iterPos, hit2, hit]
              omega
        · have hnx : ∀ ty, (Instr.next (.pointer (some ⟨wo.heap.size, 0, none⟩)) true ty).run Tryz.prog wr = _ := fun ty => Lib.run_next_end_at wr wo.heap.size marksS p ty hit hp6
          have hmk : Nm.mark (gi L i) = false := by
            rw [Bool.eq_false_iff]
            intro hm'
            obtain ⟨k, hk, he⟩ := (mark_iff _).1 hm'
            exact hno.out k (by omega) he
          have HS := Lib.hid (key_take hltL hmk)
          clear hltL hmk
          go_wp2_with (go_at_call 92; refine (gfold_any _ _ (by omega) (by omega)).mono ?_)
          first | rintro e w4 rfl hb4 | rintro e w4 ⟨rfl, hb4⟩
          have hb14 : Below wo.heap.size wo w4 := hbx.trans (hb4.mono (by omega))
          have hown4 := hown.below hb14 (Nat.le_refl _)
          have hz4 := hb14.size
          go_wp2_with (at_builtin; refine append_int rfl _ _ rfl w4 w1.heap.size u2 acc (Gl.fold (gi L i)) rfl hown4 rfl (by omega) (by omega) ?_; intro v' w5 hown5 hb5 hg5)
          go_roundw
          case rel => exact ⟨i + 1, acc ++ [Gl.fold (gi L i)], by go_num, by omega, hown5, by show _ = _; rw [HS.out, hacc.out], by simp; omega, (hbw.trans (hb14.mono hsz)).trans hb5⟩
          case measure => simp [intOf]; omega
    · have HF : Hid (Nm.key s.data.toList = acc) := Lib.hid (by rw [HK.out, ← key_end (i := i) (by rw [HN.out]; omega), hacc.out])
      go_wp2_with fail
      go_ret2
      exact ⟨hb0r, _, by rw [HF.out]; exact hown.mono hb1.size, by rw [HC.out]; rfl⟩
end Go.Proofs.YtcbobceggjndlaaGreatDoor
namespace Go.Proofs.YtcbobceggjndlaaGreatDoor
open Go.RowKit
/-- Lists of numbers, in the order of a dictionary. -/
def Nm.cmpI : List Int → List Int → Int
  | [], [] => 0
  | [], _ :: _ => -1
  | _ :: _, [] => 1
  | a :: s, b :: t => if a < b then -1 else if b < a then 1 else Nm.cmpI s t
theorem cmp_both {xs ys : List Int} {i : Nat} (h1 : i < xs.length) (h2 : i < ys.length) :
    Nm.cmpI (xs.drop i) (ys.drop i) = if gi xs i < gi ys i then -1 else if gi ys i < gi xs i then 1 else Nm.cmpI (xs.drop (i + 1)) (ys.drop (i + 1)) := by
  rw [drop_gi h1, drop_gi h2]; rfl
theorem cmp_lt {xs ys : List Int} {i : Nat} (h1 : xs.length ≤ i) (h2 : i < ys.length) : Nm.cmpI (xs.drop i) (ys.drop i) = -1 := by
  rw [List.drop_eq_nil_of_le h1, drop_gi h2]; rfl
theorem cmp_gt {xs ys : List Int} {i : Nat} (h1 : i < xs.length) (h2 : ys.length ≤ i) : Nm.cmpI (xs.drop i) (ys.drop i) = 1 := by
  rw [List.drop_eq_nil_of_le h2, drop_gi h1]; rfl
theorem cmp_end {xs ys : List Int} {i : Nat} (h1 : xs.length ≤ i) (h2 : ys.length ≤ i) : Nm.cmpI (xs.drop i) (ys.drop i) = 0 := by
  rw [List.drop_eq_nil_of_le h2, List.drop_eq_nil_of_le h1]; rfl
theorem cmpInt_k (x y : Int) (w : World) : Calls Tryz.prog 33 #[.int .i64 x, .int .i64 y] w fun e w' => e = .returned (.int .i64 (Lib.compareInt x y)) ∧ w = w' :=
  (Tryz.cmp_Compare_int x y w).mono fun _ _ h => ⟨h.1, h.2.symm⟩
set_option maxHeartbeats 4000000 in
theorem numbers_any (A B : Option Addr) (ca cb : Nat) (xs ys : List Int) (n m : Nat) (w : World) (hn : xs.length = n) (hm : ys.length = m) (hA : RI w A xs) (hB : RI w B ys) (hx : n ≤ 1000000000000000) (hy : m ≤ 1000000000000000) :
    Calls Tryz.prog 75 #[.slice A n ca, .slice B m cb] w fun e w' => e = .returned (.int .i64 (Nm.cmpI xs ys)) ∧ Below w.heap.size w w' := by
  subst hn
  subst hm
  go_enter Tryz.func75, Tryz.ntmps75
  go_wp2_with fail
  go_loopw [5] (fun iv wr => ∃ i : Nat, iv = .int .i64 i ∧ i ≤ xs.length ∧ i ≤ ys.length ∧ Hid (Nm.cmpI xs ys = Nm.cmpI (xs.drop i) (ys.drop i)) ∧ Below w.heap.size w wr) (fun iv _ => xs.length - (intOf iv).toNat)
  case atStart => exact ⟨0, rfl, by omega, by omega, rfl, Below.refl _ _⟩
  case round =>
    obtain ⟨i, rfl, hi, hi2, hcm, hbw⟩ := hrel
    by_cases h1 : i < xs.length
    · by_cases h2 : i < ys.length
      · obtain ⟨b1, o1, rfl, hb1, hc1⟩ := hA i h1
        obtain ⟨b2, o2, rfl, hb2, hc2⟩ := hB i h2
        have c1 := (hbw.cell (p := ⟨b1, o1 + i, none⟩) hb1).trans (hc1 i h1)
        have c2 := (hbw.cell (p := ⟨b2, o2 + i, none⟩) hb2).trans (hc2 i h2)
        have HB := Lib.hid (cmp_both h1 h2)
        clear hc1 hc2
        by_cases hl : gi xs i < gi ys i
        · have hlb : decide (gi xs i < gi ys i) = true := by simp [hl]
          have HF : Hid (Nm.cmpI xs ys = -1) := Lib.hid (by rw [hcm.out, HB.out, if_pos hl])
          clear hl HB
          go_wp2_with fail
          go_quiet (fail)
          go_wp2_with fail
          go_ret
          exact ⟨ret_int HF.out.symm, below_drewN hbw _⟩
        · have hlb : decide (gi xs i < gi ys i) = false := by simp [hl]
          by_cases hg : gi ys i < gi xs i
          · have hgb : decide (gi xs i > gi ys i) = true := by simpa using hg
            have hgb' : decide (gi ys i < gi xs i) = true := by simpa using hg
            have HF : Hid (Nm.cmpI xs ys = 1) := Lib.hid (by rw [hcm.out, HB.out, if_neg hl, if_pos hg])
            clear hl hg HB
            go_wp2_with fail
            go_quiet (fail)
            go_wp2_with fail
            go_quiet (fail)
            go_wp2_with fail
            go_ret
            exact ⟨ret_int HF.out.symm, below_drewN (below_drewN hbw _) _⟩
          · have hgb : decide (gi ys i < gi xs i) = false := by simp [hg]
            have HS : Hid (Nm.cmpI xs ys = Nm.cmpI (xs.drop (i + 1)) (ys.drop (i + 1))) := Lib.hid (by rw [hcm.out, HB.out, if_neg hl, if_neg hg])
            clear hl hg HB
            go_wp2_with fail
            go_quiet (fail)
            go_wp2_with fail
            go_quiet (fail)
            go_wp2_with fail
            go_roundw
            case rel => exact ⟨i + 1, by go_num, by omega, by omega, HS.out, below_drewN hbw _⟩
            case measure => simp [intOf]; omega
      · have HF : Hid (Nm.cmpI xs ys = 1) := Lib.hid (by rw [hcm.out, cmp_gt h1 (by omega)])
        go_wp2_with fail
        go_ret
        exact ⟨ret_int HF.out.symm, hbw⟩
    · by_cases h2 : i < ys.length
      · have HF : Hid (Nm.cmpI xs ys = -1) := Lib.hid (by rw [hcm.out, cmp_lt (by omega) h2])
        go_wp2_with fail
        go_ret
        exact ⟨ret_int HF.out.symm, hbw⟩
      · have HF : Hid (Nm.cmpI xs ys = 0) := Lib.hid (by rw [hcm.out, cmp_end (by omega) (by omega)])
        go_wp2_with fail
        go_ret
        exact ⟨ret_int HF.out.symm, hbw⟩
set_option maxHeartbeats 4000000 in
theorem compare_any (A B : Option Addr) (ca cb : Nat) (xs ys : List Int) (n m : Nat) (w : World) (hn : xs.length = n) (hm : ys.length = m) (hA : RI w A xs) (hB : RI w B ys) (hx : n ≤ 1000000000000000) (hy : m ≤ 1000000000000000) :
    Calls Tryz.prog 68 #[.slice A n ca, .slice B m cb] w fun e w' => e = .returned (.int .i64 (Nm.cmpI xs ys)) ∧ Below w.heap.size w w' := by
  subst hn
  subst hm
  go_enter Tryz.func68, Tryz.ntmps68
  go_wp2_with fail
  go_loopw [4, 5, 6, 7, 8, 11] (fun rv _ _ _ _ iv wr => ∃ i : Nat, rv = .int .i64 0 ∧ iv = .int .i64 i ∧ i ≤ xs.length ∧ i ≤ ys.length ∧ Hid (Nm.cmpI xs ys = Nm.cmpI (xs.drop i) (ys.drop i)) ∧ w = wr) (fun _ _ _ _ _ iv _ => xs.length - (intOf iv).toNat)
  case atStart => exact ⟨0, rfl, rfl, by omega, by omega, rfl, rfl⟩
  case round =>
    obtain ⟨i, rfl, rfl, hi, hi2, hcm, rfl⟩ := hrel
    by_cases h1 : i < xs.length
    · obtain ⟨b1, o1, rfl, hb1, hc1⟩ := hA i h1
      have c1 := hc1 i h1
      clear hc1
      by_cases h2 : i < ys.length
      · obtain ⟨b2, o2, rfl, hb2, hc2⟩ := hB i h2
        have c2 := hc2 i h2
        have HB := Lib.hid (cmp_both h1 h2)
        clear hc2
        have HC : Hid (Nm.cmpI xs ys = if gi xs i < gi ys i then -1 else if gi ys i < gi xs i then 1 else Nm.cmpI (xs.drop (i + 1)) (ys.drop (i + 1))) := Lib.hid (hcm.out.trans HB.out)
        by_cases he : Lib.compareInt (gi xs i) (gi ys i) = 0
        · have heb : (Lib.compareInt (gi xs i) (gi ys i) != 0) = false := by simp [he]
          have HS : Hid (Nm.cmpI xs ys = Nm.cmpI (xs.drop (i + 1)) (ys.drop (i + 1))) := Lib.hid (by
            rw [HC.out]
            unfold Lib.compareInt at he
            split at he
            · cases he
            · split at he
              · cases he
              · rw [if_neg (by assumption), if_neg (by omega)])
          clear he
          go_wp2_with (go_at_call 33; refine (cmpInt_k _ _ _).mono ?_; first | rintro e w' rfl rfl | rintro e w' ⟨rfl, rfl⟩)
          go_roundw
          case rel => exact ⟨i + 1, rfl, by go_num, by omega, by omega, HS.out, trivial⟩
          case measure => simp [intOf]; omega
        · have heb : (Lib.compareInt (gi xs i) (gi ys i) != 0) = true := by simp [he]
          have HF : Hid (Nm.cmpI xs ys = Lib.compareInt (gi xs i) (gi ys i)) := Lib.hid (by
            rw [HC.out]
            unfold Lib.compareInt at he ⊢
            split
            · rfl
            · split
              · rfl
              · rename_i h3 h4
                rw [if_neg h3, if_neg h4] at he
                exact absurd rfl he)
          clear he
          go_wp2_with (go_at_call 33; refine (cmpInt_k _ _ _).mono ?_; first | rintro e w' rfl rfl | rintro e w' ⟨rfl, rfl⟩)
          go_ret
          exact ⟨ret_int HF.out.symm, Below.refl _ _⟩
      · have HF : Hid (Nm.cmpI xs ys = 1) := Lib.hid (by rw [hcm.out, cmp_gt h1 (by omega)])
        go_wp2_with fail
        go_ret
        exact ⟨ret_int HF.out.symm, Below.refl _ _⟩
    · by_cases h2 : i < ys.length
      · have HF : Hid (Nm.cmpI xs ys = -1) := Lib.hid (by rw [hcm.out, cmp_lt (by omega) h2])
        go_wp2_with fail
        go_ret
        exact ⟨ret_int HF.out.symm, Below.refl _ _⟩
      · have HF : Hid (Nm.cmpI xs ys = 0) := Lib.hid (by rw [hcm.out, cmp_end (by omega) (by omega)])
        go_wp2_with fail
        go_ret
        exact ⟨ret_int HF.out.symm, Below.refl _ _⟩
end Go.Proofs.YtcbobceggjndlaaGreatDoor
namespace Go.Proofs.YtcbobceggjndlaaGreatDoor
open Go.RowKit
set_option maxHeartbeats 2000000 in
theorem equal_any (A B : Option Addr) (ca cb : Nat) (xs ys : List Int) (n m : Nat) (w : World) (hn : xs.length = n) (hm : ys.length = m) (hA : RI w A xs) (hB : RI w B ys) (hx : n ≤ 1000000000000000) :
    Calls Tryz.prog 64 #[.slice A n ca, .slice B m cb] w fun e w' => e = .returned (.bool (decide (xs = ys))) ∧ Below w.heap.size w w' := by
  subst hn
  subst hm
  by_cases hl : xs.length = ys.length
  · have HL := Lib.hid hl
    have hl1 : (((xs.length : Int) != (ys.length : Int)) = false) := by simp [hl]
    clear hl
    go_enter Tryz.func64, Tryz.ntmps64
    go_wp2
    go_loopw [5, 13] (fun _ i wr => ∃ k : Nat, k ≤ xs.length ∧ i = .int .i64 k ∧ Hid (xs.take k = ys.take k) ∧ Below w.heap.size w wr) (fun _ i _ => xs.length - (intOf i).toNat)
    case atStart => exact ⟨0, by omega, rfl, by simp [Hid], Below.refl _ _⟩
    case round =>
      obtain ⟨k, hk, rfl, hn, hb⟩ := hrel
      by_cases hlt : k < xs.length
      · obtain ⟨b1, o1, rfl, hb1, hc1⟩ := hA k hlt
        obtain ⟨b2, o2, rfl, hb2, hc2⟩ := hB k (by have := HL.out; omega)
        have c1 := (hb.cell (p := ⟨b1, o1 + k, none⟩) hb1).trans (hc1 k hlt)
        have c2 := (hb.cell (p := ⟨b2, o2 + k, none⟩) hb2).trans (hc2 k (by have := HL.out; omega))
        have hlt2 : k < ys.length := by have := HL.out; omega
        clear hc1 hc2 hA hB
        by_cases he : gi xs k = gi ys k
        · have he1 : (gi xs k != gi ys k) = false := by simp [he]
          have HE := Lib.hid he
          clear he
          go_wp2
          go_quiet (fail)
          go_wp2
          go_roundw
          case rel => exact ⟨k + 1, by omega, by go_num, by show _ = _; rw [take_gi hlt, take_gi hlt2, hn.out, HE.out], below_drewN hb _⟩
          case measure => simp [intOf]; omega
        · have he1 : (gi xs k != gi ys k) = true := by simp [he]
          go_wp2
          go_quiet (fail)
          go_wp2
          go_ret
          exact ⟨ret_bool (by simp; intro h; exact he (by rw [h])), below_drewN hb _⟩
      · go_wp2
        go_ret
        exact ⟨ret_bool (by have h1 := hn.out; have h2 := HL.out; rw [List.take_of_length_le (by omega), List.take_of_length_le (by omega)] at h1; simp [h1]), hb⟩
  · have hl1 : (((xs.length : Int) != (ys.length : Int)) = true) := by simp; omega
    go_enter Tryz.func64, Tryz.ntmps64
    go_wp2
    go_ret
    exact ⟨ret_bool (by simp; intro h; exact hl (by rw [h])), Below.refl _ _⟩
/-- Bytes as numbers. -/
def nb (l : List UInt8) : List Int := l.map fun b => (b.toNat : Int)
theorem nb_length (l : List UInt8) : (nb l).length = l.length := by simp [nb]
theorem nb_take {s : ByteArray} {i : Nat} (h : i < s.size) : nb (s.data.toList.take (i + 1)) = nb (s.data.toList.take i) ++ [(((s[i]'h).toNat : Nat) : Int)] := by
  have h' : i < s.data.toList.length := h
  rw [List.take_succ_eq_append_getElem h']
  simp [nb]
  rfl
theorem nb_cmp : ∀ a b : List UInt8, Nm.cmpI (nb a) (nb b) = Lib.compareBytes a b
  | [], [] => rfl
  | [], _ :: _ => rfl
  | _ :: _, [] => rfl
  | x :: a, y :: b => by
    have ih := nb_cmp a b
    simp only [nb] at ih
    simp only [nb, List.map_cons, Nm.cmpI, Lib.compareBytes, ih]
    have h1 : ((x.toNat : Int) < (y.toNat : Int)) ↔ x < y := by rw [UInt8.lt_iff_toNat_lt]; omega
    have h2 : ((y.toNat : Int) < (x.toNat : Int)) ↔ y < x := by rw [UInt8.lt_iff_toNat_lt]; omega
    simp only [h1, h2]
set_option maxHeartbeats 2000000 in
theorem bytes_any (s : ByteArray) (w : World) (hs : s.size ≤ 1000000000000) :
    Calls Tryz.prog 76 #[.string s] w (ListPost (nb s.data.toList) w) := by
  go_enter Tryz.func76, Tryz.ntmps76
  go_wp2_with fail
  go_loopw [3, 4] (fun v iv wr => ∃ (i : Nat) (acc : List Int), iv = .int .i64 i ∧ i ≤ s.size ∧ OI wr w.heap.size v acc ∧ Hid (nb (s.data.toList.take i) = acc) ∧ acc.length ≤ i ∧ Below w.heap.size w wr) (fun _ iv _ => s.size - (intOf iv).toNat)
  case atStart => exact ⟨0, [], rfl, by omega, OI.fresh _ (Nat.le_refl _), rfl, by simp, (Below.refl _ _).alloc (Nat.le_refl _) _⟩
  case round =>
    obtain ⟨i, acc, rfl, hi, hown, hacc, hal, hbw⟩ := hrel
    have hsz := hbw.size
    by_cases hlt : i < s.size
    · have HS := Lib.hid (nb_take hlt)
      have hbd : (s[i]'hlt).toNat < 256 := (s[i]'hlt).toNat_lt
      have hbd2 : (((s[i]'hlt).toNat : Nat) : Int) < 256 := by omega
      go_wp2_with (at_builtin; refine append_int rfl _ _ rfl wr w.heap.size u3 acc (((s[i]'hlt).toNat : Nat) : Int) rfl hown rfl (by omega) hsz ?_; intro v' w3 hown3 hb3 hg3)
      go_roundw
      case rel => exact ⟨i + 1, acc ++ [(((s[i]'hlt).toNat : Nat) : Int)], by go_num, by omega, hown3, by show _ = _; rw [HS.out, hacc.out], by simp; omega, hbw.trans hb3⟩
      case measure => simp [intOf]; omega
    · have HF : Hid (nb s.data.toList = acc) := Lib.hid (by rw [← hacc.out, List.take_of_length_le (by show s.size ≤ i; omega)])
      go_wp2_with fail
      go_ret
      exact ⟨hbw, _, rfl, by rw [HF.out]; exact hown⟩
end Go.Proofs.YtcbobceggjndlaaGreatDoor
namespace Go.Proofs.YtcbobceggjndlaaGreatDoor
open Go.RowKit
/-- The order of two strings as names. -/
def Nm.cmp (a b : List UInt8) : Int :=
  if Nm.check a ≠ 0 ∧ Nm.check b = 0 then -1 else if Nm.check a = 0 ∧ Nm.check b ≠ 0 then 1
  else if Nm.cmpI (Nm.key a) (Nm.key b) = 0 then Lib.compareBytes a b else Nm.cmpI (Nm.key a) (Nm.key b)
/-- Does the name a begin with b? -/
def Nm.begins (a b : List UInt8) : Bool := decide (Nm.check a = 0 ∧ (b = [] ∨ (Nm.check b = 0 ∧ Nm.key b <+: Nm.key a)))
theorem Nm.key_err {l : List UInt8} (h : Nm.check l ≠ 0) : Nm.key l = [] := by unfold Nm.key; rw [Nm.read_err h]; rfl
theorem Nm.key_len (l : List UInt8) : (Nm.key l).length ≤ 40 := by
  by_cases h : Nm.check l = 0
  · have := (Nm.read_ok h).2.2
    unfold Nm.key Nm.keyOf
    rw [List.length_map]
    exact Nat.le_trans (List.length_filter_le _ _) this
  · rw [Nm.key_err h]; simp
theorem compareS_k (a b : ByteArray) (w : World) : Calls Tryz.prog 34 #[.string a, .string b] w fun e w' => e = .returned (.int .i64 (Lib.compareBytes a.data.toList b.data.toList)) ∧ w = w' :=
  (Tryz.strings_Compare a b w).mono fun _ _ h => ⟨h.1, h.2.symm⟩
set_option maxHeartbeats 4000000 in
theorem ncmp_any (a b : ByteArray) (w : World) (ht : Gl.Tab w) (hm : MaxOk w) (ha : a.size ≤ 1000000000000) (hb : b.size ≤ 1000000000000) :
    Calls Tryz.prog 32 #[.string a, .string b] w fun e w' => e = .returned (.int .i64 (Nm.cmp a.data.toList b.data.toList)) ∧ Below w.heap.size w w' := by
  go_enter Tryz.func32, Tryz.ntmps32
  go_wp2_with (go_at_call 63; refine (nkey_any _ _ ht hm ha).mono ?_)
  rintro e w1 ⟨hb1, v1, ho1, rfl⟩
  have ht1 := ht.below hb1 (Nat.le_refl _)
  have hm1 := hm.below hb1 (Nat.le_refl _)
  go_wp2_with (go_at_call 63; refine (nkey_any _ _ ht1 hm1 hb).mono ?_)
  rintro e w2 ⟨hb2, v2, ho2, rfl⟩
  have hb02 : Below w.heap.size w w2 := hb1.trans (hb2.mono hb1.size)
  have ho12 := ho1.below hb2 (Nat.le_refl _)
  have HC : Hid (∀ x, Nm.cmp a.data.toList b.data.toList = x ↔ Nm.cmp a.data.toList b.data.toList = x) := Lib.hid (fun _ => Iff.rfl)
  have hl1 := Nm.key_len a.data.toList
  have hl2 := Nm.key_len b.data.toList
  obtain ⟨n1, hn1⟩ : ∃ n, (Nm.key a.data.toList).length = n := ⟨_, rfl⟩
  obtain ⟨n2, hn2⟩ : ∃ n, (Nm.key b.data.toList).length = n := ⟨_, rfl⟩
  rw [hn1] at hl1
  rw [hn2] at hl2
  obtain ⟨A1, c1, rfl, _, hR1, _⟩ := ho12.form_n hn1
  obtain ⟨A2, c2, rfl, _, hR2, _⟩ := ho2.form_n hn2
  have H1 := Lib.hid hn1
  have H2 := Lib.hid hn2
  clear hn1 hn2 HC
  by_cases ca : Nm.check a.data.toList = 0
  · by_cases cb : Nm.check b.data.toList = 0
    · have HR : Hid (Nm.cmp a.data.toList b.data.toList = if Nm.cmpI (Nm.key a.data.toList) (Nm.key b.data.toList) = 0 then Lib.compareBytes a.data.toList b.data.toList else Nm.cmpI (Nm.key a.data.toList) (Nm.key b.data.toList)) := Lib.hid (by unfold Nm.cmp; rw [if_neg (fun h => h.1 ca), if_neg (fun h => h.2 cb)])
      rw [ca, cb]
      clear ca cb
      go_wp2_with (go_at_call 68; refine (compare_any _ _ _ _ _ _ n1 n2 _ H1.out H2.out hR1 hR2 (by omega) (by omega)).mono ?_)
      first | rintro e w3 rfl hb3 | rintro e w3 ⟨rfl, hb3⟩
      have hb03 : Below w.heap.size w w3 := hb02.trans (hb3.mono hb02.size)
      by_cases hz : Nm.cmpI (Nm.key a.data.toList) (Nm.key b.data.toList) = 0
      · have HF : Hid (Nm.cmp a.data.toList b.data.toList = Lib.compareBytes a.data.toList b.data.toList) := Lib.hid (by rw [HR.out, if_pos hz])
        rw [hz]
        clear hz HR
        go_wp2_with (go_at_call 34; refine (compareS_k _ _ _).mono ?_; first | rintro e w' rfl rfl | rintro e w' ⟨rfl, rfl⟩)
        go_ret
        exact ⟨ret_int HF.out.symm, hb03⟩
      · have HF : Hid (Nm.cmp a.data.toList b.data.toList = Nm.cmpI (Nm.key a.data.toList) (Nm.key b.data.toList)) := Lib.hid (by rw [HR.out, if_neg hz])
        have hzb : (Nm.cmpI (Nm.key a.data.toList) (Nm.key b.data.toList) == 0) = false := by simpa using hz
        clear hz HR
        go_wp2_with fail
        go_ret
        exact ⟨ret_int HF.out.symm, hb03⟩
    · have HF : Hid (Nm.cmp a.data.toList b.data.toList = 1) := Lib.hid (by unfold Nm.cmp; rw [if_neg (fun h => h.1 ca), if_pos ⟨ca, cb⟩])
      have cbb : (Nm.check b.data.toList != 0) = true := by simp [cb]
      have cbe : (Nm.check b.data.toList == 0) = false := by simp [cb]
      rw [ca]
      clear ca cb
      go_wp2_with fail
      go_ret
      exact ⟨ret_int HF.out.symm, hb02⟩
  · have cab : (Nm.check a.data.toList != 0) = true := by simp [ca]
    have cae : (Nm.check a.data.toList == 0) = false := by simp [ca]
    by_cases cb : Nm.check b.data.toList = 0
    · have HF : Hid (Nm.cmp a.data.toList b.data.toList = -1) := Lib.hid (by unfold Nm.cmp; rw [if_pos ⟨ca, cb⟩])
      rw [cb]
      clear ca cb
      go_wp2_with fail
      go_ret
      exact ⟨ret_int HF.out.symm, hb02⟩
    · have HF : Hid (Nm.cmp a.data.toList b.data.toList = Lib.compareBytes a.data.toList b.data.toList) := Lib.hid (by unfold Nm.cmp; rw [if_neg (fun h => cb h.2), if_neg (fun h => ca h.1), Nm.key_err ca, Nm.key_err cb]; rfl)
      have cbe : (Nm.check b.data.toList == 0) = false := by simp [cb]
      clear ca cb
      go_wp2_with (go_at_call 34; refine (compareS_k _ _ _).mono ?_; first | rintro e w' rfl rfl | rintro e w' ⟨rfl, rfl⟩)
      go_ret
      exact ⟨ret_int HF.out.symm, hb02⟩
end Go.Proofs.YtcbobceggjndlaaGreatDoor
namespace Go.Proofs.YtcbobceggjndlaaGreatDoor
open Go.RowKit
set_option maxHeartbeats 4000000 in
theorem rcmp_any (a b : ByteArray) (w : World) (ha : a.size ≤ 1000000000000) (hb : b.size ≤ 1000000000000) :
    Calls Tryz.prog 39 #[.string a, .string b] w fun e w' => e = .returned (.int .i64 (Nm.cmp a.data.toList b.data.toList)) ∧ Below w.heap.size w w' := by
  go_enter Tryz.func39, Tryz.ntmps39
  go_wp2_with (go_at_call 74; refine (rkey_any _ _ ha).mono ?_)
  rintro e w1 ⟨hb1, v1, ho1, rfl⟩
  go_wp2_with (go_at_call 74; refine (rkey_any _ _ hb).mono ?_)
  rintro e w2 ⟨hb2, v2, ho2, rfl⟩
  have hb02 : Below w.heap.size w w2 := hb1.trans (hb2.mono hb1.size)
  have ho12 := ho1.below hb2 (Nat.le_refl _)
  have hl1 := Nm.key_len a.data.toList
  have hl2 := Nm.key_len b.data.toList
  obtain ⟨n1, hn1⟩ : ∃ n, (Nm.key a.data.toList).length = n := ⟨_, rfl⟩
  obtain ⟨n2, hn2⟩ : ∃ n, (Nm.key b.data.toList).length = n := ⟨_, rfl⟩
  rw [hn1] at hl1
  rw [hn2] at hl2
  obtain ⟨A1, c1, rfl, _, hR1, _⟩ := ho12.form_n hn1
  obtain ⟨A2, c2, rfl, _, hR2, _⟩ := ho2.form_n hn2
  have H1 := Lib.hid hn1
  have H2 := Lib.hid hn2
  clear hn1 hn2
  have fin : ∀ (h : ¬ (Nm.check a.data.toList ≠ 0 ∧ Nm.check b.data.toList = 0)) (h' : ¬ (Nm.check a.data.toList = 0 ∧ Nm.check b.data.toList ≠ 0)),
      Nm.cmp a.data.toList b.data.toList = if Nm.cmpI (Nm.key a.data.toList) (Nm.key b.data.toList) = 0 then Lib.compareBytes a.data.toList b.data.toList else Nm.cmpI (Nm.key a.data.toList) (Nm.key b.data.toList) := fun h h' => by unfold Nm.cmp; rw [if_neg h, if_neg h']
  have FIN := Lib.hid fin
  clear fin
  have HNA := Lib.hid (nb_length a.data.toList)
  have HNB := Lib.hid (nb_length b.data.toList)
  by_cases ca : Nm.check a.data.toList = 0
  · by_cases cb : Nm.check b.data.toList = 0
    · have HR := Lib.hid (FIN.out (fun h => h.1 ca) (fun h => h.2 cb))
      rw [ca, cb]
      clear ca cb FIN
      go_wp2_with (go_at_call 75; refine (numbers_any _ _ _ _ _ _ n1 n2 _ H1.out H2.out hR1 hR2 (by omega) (by omega)).mono ?_)
      first | rintro e w3 rfl hb3 | rintro e w3 ⟨rfl, hb3⟩
      have hb03 : Below w.heap.size w w3 := hb02.trans (hb3.mono hb02.size)
      by_cases hz : Nm.cmpI (Nm.key a.data.toList) (Nm.key b.data.toList) = 0
      · have HF : Hid (Nm.cmp a.data.toList b.data.toList = Lib.compareBytes a.data.toList b.data.toList) := Lib.hid (by rw [HR.out, if_pos hz])
        rw [hz]
        clear hz HR
        go_wp2_with (go_at_call 76; refine (bytes_any _ _ ha).mono ?_)
        rintro e w4 ⟨hb4, v4, rfl, ho4⟩
        have hb04 : Below w.heap.size w w4 := hb03.trans (hb4.mono hb03.size)
        go_wp2_with (go_at_call 76; refine (bytes_any _ _ hb).mono ?_)
        rintro e w5 ⟨hb5, v5, rfl, ho5⟩
        have hb05 : Below w.heap.size w w5 := hb04.trans (hb5.mono hb04.size)
        have ho45 := ho4.below hb5 (Nat.le_refl _)
        obtain ⟨A4, c4, rfl, _, hR4, _⟩ := ho45.form_n HNA.out
        obtain ⟨A5, c5, rfl, _, hR5, _⟩ := ho5.form_n HNB.out
        have hq1 : a.data.toList.length ≤ 1000000000000000 := by show a.size ≤ _; omega
        have hq2 : b.data.toList.length ≤ 1000000000000000 := by show b.size ≤ _; omega
        go_wp2_with (go_at_call 75; refine (numbers_any _ _ _ _ _ _ _ _ _ HNA.out HNB.out hR4 hR5 hq1 hq2).mono ?_)
        first | rintro e w6 rfl hb6 | rintro e w6 ⟨rfl, hb6⟩
        rw [nb_cmp]
        go_wp2_with fail
        go_ret
        exact ⟨ret_int HF.out.symm, hb05.trans (hb6.mono hb05.size)⟩
      · have HF : Hid (Nm.cmp a.data.toList b.data.toList = Nm.cmpI (Nm.key a.data.toList) (Nm.key b.data.toList)) := Lib.hid (by rw [HR.out, if_neg hz])
        have hzb : (Nm.cmpI (Nm.key a.data.toList) (Nm.key b.data.toList) == 0) = false := by simpa using hz
        clear hz HR
        go_wp2_with fail
        go_ret
        exact ⟨ret_int HF.out.symm, hb03⟩
    · have HF : Hid (Nm.cmp a.data.toList b.data.toList = 1) := Lib.hid (by unfold Nm.cmp; rw [if_neg (fun h => h.1 ca), if_pos ⟨ca, cb⟩])
      have cbb : (Nm.check b.data.toList != 0) = true := by simp [cb]
      have cbe : (Nm.check b.data.toList == 0) = false := by simp [cb]
      rw [ca]
      clear ca cb
      go_wp2_with fail
      go_ret
      exact ⟨ret_int HF.out.symm, hb02⟩
  · have cab : (Nm.check a.data.toList != 0) = true := by simp [ca]
    have cae : (Nm.check a.data.toList == 0) = false := by simp [ca]
    by_cases cb : Nm.check b.data.toList = 0
    · have HF : Hid (Nm.cmp a.data.toList b.data.toList = -1) := Lib.hid (by unfold Nm.cmp; rw [if_pos ⟨ca, cb⟩])
      rw [cb]
      clear ca cb
      go_wp2_with fail
      go_ret
      exact ⟨ret_int HF.out.symm, hb02⟩
    · have hk0 : Nm.cmpI (Nm.key a.data.toList) (Nm.key b.data.toList) = 0 := by rw [Nm.key_err ca, Nm.key_err cb]; rfl
      have HF : Hid (Nm.cmp a.data.toList b.data.toList = Lib.compareBytes a.data.toList b.data.toList) := Lib.hid (by rw [FIN.out (fun h => cb h.2) (fun h => ca h.1), if_pos hk0])
      have cbe : (Nm.check b.data.toList == 0) = false := by simp [cb]
      have HK0 := Lib.hid hk0
      clear ca cb FIN hk0
      go_wp2_with (go_at_call 75; refine (numbers_any _ _ _ _ _ _ n1 n2 _ H1.out H2.out hR1 hR2 (by omega) (by omega)).mono ?_)
      first | rintro e w3 rfl hb3 | rintro e w3 ⟨rfl, hb3⟩
      rw [HK0.out]
      have hb03 : Below w.heap.size w w3 := hb02.trans (hb3.mono hb02.size)
      go_wp2_with (go_at_call 76; refine (bytes_any _ _ ha).mono ?_)
      rintro e w4 ⟨hb4, v4, rfl, ho4⟩
      have hb04 : Below w.heap.size w w4 := hb03.trans (hb4.mono hb03.size)
      go_wp2_with (go_at_call 76; refine (bytes_any _ _ hb).mono ?_)
      rintro e w5 ⟨hb5, v5, rfl, ho5⟩
      have hb05 : Below w.heap.size w w5 := hb04.trans (hb5.mono hb04.size)
      have ho45 := ho4.below hb5 (Nat.le_refl _)
      obtain ⟨A4, c4, rfl, _, hR4, _⟩ := ho45.form_n HNA.out
      obtain ⟨A5, c5, rfl, _, hR5, _⟩ := ho5.form_n HNB.out
      have hq1 : a.data.toList.length ≤ 1000000000000000 := by show a.size ≤ _; omega
      have hq2 : b.data.toList.length ≤ 1000000000000000 := by show b.size ≤ _; omega
      go_wp2_with (go_at_call 75; refine (numbers_any _ _ _ _ _ _ _ _ _ HNA.out HNB.out hR4 hR5 hq1 hq2).mono ?_)
      first | rintro e w6 rfl hb6 | rintro e w6 ⟨rfl, hb6⟩
      rw [nb_cmp]
      go_wp2_with fail
      go_ret
      exact ⟨ret_int HF.out.symm, hb05.trans (hb6.mono hb05.size)⟩
end Go.Proofs.YtcbobceggjndlaaGreatDoor
namespace Go.Proofs.YtcbobceggjndlaaGreatDoor
open Go.RowKit
theorem Nm.mark_common {r : Int} (h : Nm.mark r = true) : Gl.script r = 0 := by
  simp [Nm.mark] at h
  unfold Gl.script
  omega
theorem Nm.not_common {l : List UInt8} (h : Nm.check l = 0) : Nm.common (Nm.read l) = false ∧ Nm.blanks (Nm.read l) = false := by
  have h0 : l ≠ [] := fun e => by rw [e] at h; exact absurd h (by decide)
  have h1 : l.length ≤ 40 := Nat.le_of_not_lt fun e => by rw [Nm.check_long e] at h; exact absurd h (by decide)
  have hc := Nm.check_some h0 h1 (Nm.read_ok h).1
  rw [h] at hc
  cases hb : Nm.blanks (Nm.read l) <;> cases hm : Nm.common (Nm.read l) <;> rw [hb, hm] at hc <;> first | exact ⟨rfl, rfl⟩ | exact absurd hc (by decide)
theorem Nm.key_pos {l : List UInt8} (h : Nm.check l = 0) : 0 < (Nm.key l).length := by
  have hc := (Nm.not_common h).1
  unfold Nm.common at hc
  rw [List.all_eq_false] at hc
  obtain ⟨x, hx, hs⟩ := hc
  have hm : Nm.mark x = false := by
    rw [Bool.eq_false_iff]
    intro hm
    rw [Nm.mark_common hm] at hs
    exact hs rfl
  unfold Nm.key Nm.keyOf
  rw [List.length_map]
  exact List.length_pos_of_mem (List.mem_filter.2 ⟨hx, by rw [hm]; rfl⟩)
theorem pre_take {s k : List Int} {n : Nat} (h : s.length = n) : decide (s = k.take n) = decide (s <+: k) := by
  subst h
  rw [Bool.eq_iff_iff, decide_eq_true_eq, decide_eq_true_eq, List.prefix_iff_eq_take]
set_option maxHeartbeats 4000000 in
theorem nbegins_any (a b : ByteArray) (w : World) (ht : Gl.Tab w) (hm : MaxOk w) (ha : a.size ≤ 1000000000000) (hb : b.size ≤ 1000000000000) :
    Calls Tryz.prog 29 #[.string a, .string b] w fun e w' => e = .returned (.bool (Nm.begins a.data.toList b.data.toList)) ∧ Below w.heap.size w w' := by
  go_enter Tryz.func29, Tryz.ntmps29
  go_wp2_with (go_at_call 63; refine (nkey_any _ _ ht hm ha).mono ?_)
  rintro e w1 ⟨hb1, v1, ho1, rfl⟩
  have ht1 := ht.below hb1 (Nat.le_refl _)
  have hm1 := hm.below hb1 (Nat.le_refl _)
  by_cases ca : Nm.check a.data.toList = 0
  rotate_left
  · have cab : (Nm.check a.data.toList != 0) = true := by simp [ca]
    have HF : Hid (Nm.begins a.data.toList b.data.toList = false) := Lib.hid (by unfold Nm.begins; exact decide_eq_false (fun h => ca h.1))
    clear ca
    go_wp2_with fail
    go_ret
    exact ⟨ret_bool HF.out.symm, hb1⟩
  have hkp := Nm.key_pos ca
  have HB : Hid (Nm.begins a.data.toList b.data.toList = decide (b.data.toList = [] ∨ (Nm.check b.data.toList = 0 ∧ Nm.key b.data.toList <+: Nm.key a.data.toList))) := Lib.hid (by unfold Nm.begins; simp [ca])
  rw [ca]
  clear ca
  by_cases h0 : b = ⟨#[]⟩
  · have HF : Hid (Nm.begins a.data.toList b.data.toList = true) := Lib.hid (by rw [HB.out, h0]; rfl)
    have h0b : b.toList.isEmpty = true := by rw [str_toList, h0]; rfl
    clear h0 HB
    go_wp2_with fail
    go_ret
    exact ⟨ret_bool HF.out.symm, hb1⟩
  have h0d : b.data.toList ≠ [] := fun e => h0 (by cases b with | mk d => simp at e; subst e; rfl)
  have h0b : b.toList.isEmpty = false := by rw [str_toList]; simpa using h0d
  go_wp2_with (go_at_call 63; refine (nkey_any _ _ ht1 hm1 hb).mono ?_)
  rintro e w2 ⟨hb2, v2, ho2, rfl⟩
  have hb02 : Below w.heap.size w w2 := hb1.trans (hb2.mono hb1.size)
  have ho12 := ho1.below hb2 (Nat.le_refl _)
  have hl1 := Nm.key_len a.data.toList
  have hl2 := Nm.key_len b.data.toList
  obtain ⟨n1, hn1⟩ : ∃ n, (Nm.key a.data.toList).length = n := ⟨_, rfl⟩
  obtain ⟨n2, hn2⟩ : ∃ n, (Nm.key b.data.toList).length = n := ⟨_, rfl⟩
  rw [hn1] at hl1 hkp
  rw [hn2] at hl2
  obtain ⟨A1, c1, rfl, hc1, hR1, _⟩ := ho12.form_n hn1
  obtain ⟨A2, c2, rfl, _, hR2, _⟩ := ho2.form_n hn2
  have H1 := Lib.hid hn1
  have H2 := Lib.hid hn2
  clear hn1 hn2
  by_cases cb : Nm.check b.data.toList = 0
  rotate_left
  · have cbb : (Nm.check b.data.toList != 0) = true := by simp [cb]
    have HF : Hid (Nm.begins a.data.toList b.data.toList = false) := Lib.hid (by rw [HB.out]; exact decide_eq_false (fun h => h.elim h0d (fun h => cb h.1)))
    clear cb HB
    go_wp2_with fail
    go_ret
    exact ⟨ret_bool HF.out.symm, hb02⟩
  have HB2 : Hid (Nm.begins a.data.toList b.data.toList = decide (Nm.key b.data.toList <+: Nm.key a.data.toList)) := Lib.hid (by rw [HB.out]; simp [cb]; intro e; exact absurd (by simp [e]) h0d)
  rw [cb]
  clear cb HB
  by_cases hlen : n1 < n2
  · have HF : Hid (Nm.begins a.data.toList b.data.toList = false) := Lib.hid (by rw [HB2.out]; exact decide_eq_false (fun h => by have := h.length_le; rw [H1.out, H2.out] at this; omega))
    go_wp2_with fail
    go_ret
    exact ⟨ret_bool HF.out.symm, hb02⟩
  obtain ⟨b1, o1, rfl, hbb1, hcc⟩ := hR1 0 (by rw [H1.out]; omega)
  have hpart : RI w2 (some ⟨b1, o1, none⟩) ((Nm.key a.data.toList).take n2) := by
    have := RI.part hcc hbb1 (f := 0) (e := n2) (by rw [H1.out]; omega)
    simpa using this
  have HT : Hid (((Nm.key a.data.toList).take n2).length = n2) := Lib.hid (by rw [List.length_take, H1.out]; omega)
  have HP := Lib.hid hpart
  clear hpart hcc hR1
  go_wp2_with (go_at_call 64; refine (equal_any _ _ _ _ _ _ n2 n2 _ H2.out HT.out hR2 HP.out (by omega)).mono ?_)
  first | rintro e w3 rfl hb3 | rintro e w3 ⟨rfl, hb3⟩
  rw [pre_take H2.out, ← HB2.out]
  go_wp2_with fail
  go_ret
  exact ⟨rfl, hb02.trans (hb3.mono hb02.size)⟩
end Go.Proofs.YtcbobceggjndlaaGreatDoor
