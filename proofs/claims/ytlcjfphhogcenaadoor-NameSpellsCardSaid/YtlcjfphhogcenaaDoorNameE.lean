/-
  Walks of layer 7: the comparing of lists (the reference's numbers, slices.Compare, slices.Equal, Same of layer 4), the bytes as numbers.
-/
import Derived.Test.YtlcjfphhogcenaaDoorNameD
set_option linter.unusedVariables false
set_option linter.unusedSimpArgs false
namespace Go.Proofs.YtlcjfphhogcenaaDoor
open Go.RowKit

/-- Lists of numbers, in the order of a dictionary. -/
def Nm.cmpI : List Int → List Int → Int
  | [], [] => 0
  | [], _ :: _ => -1
  | _ :: _, [] => 1
  | a :: s, b :: t => if a < b then -1 else if b < a then 1 else Nm.cmpI s t
theorem cmp_both {xs ys : List Int} {i : Nat} (h1 : i < xs.length) (h2 : i < ys.length) :
    Nm.cmpI (xs.drop i) (ys.drop i) = if gi xs i < gi ys i then -1 else if gi ys i < gi xs i then 1 else Nm.cmpI (xs.drop (i + 1)) (ys.drop (i + 1)) := by
  rw [drop_gi h1, drop_gi h2]; rfl
theorem cmp_lt {xs ys : List Int} {i : Nat} (h1 : xs.length ≤ i) (h2 : i < ys.length) : Nm.cmpI (xs.drop i) (ys.drop i) = -1 := by
  rw [List.drop_eq_nil_of_le h1, drop_gi h2]; rfl
theorem cmp_gt {xs ys : List Int} {i : Nat} (h1 : i < xs.length) (h2 : ys.length ≤ i) : Nm.cmpI (xs.drop i) (ys.drop i) = 1 := by
  rw [List.drop_eq_nil_of_le h2, drop_gi h1]; rfl
theorem cmp_end {xs ys : List Int} {i : Nat} (h1 : xs.length ≤ i) (h2 : ys.length ≤ i) : Nm.cmpI (xs.drop i) (ys.drop i) = 0 := by
  rw [List.drop_eq_nil_of_le h2, List.drop_eq_nil_of_le h1]; rfl

theorem cmpInt_k (x y : Int) (w : World) : Calls Tryd.prog 81 #[.int .i64 x, .int .i64 y] w fun e w' => e = .returned (.int .i64 (Lib.compareInt x y)) ∧ w = w' :=
  (Tryd.cmp_Compare_int x y w).mono fun _ _ h => ⟨h.1, h.2.symm⟩

set_option maxHeartbeats 4000000 in
theorem numbers_any (A B : Option Addr) (ca cb : Nat) (xs ys : List Int) (n m : Nat) (w : World) (hn : xs.length = n) (hm : ys.length = m) (hA : RI w A xs) (hB : RI w B ys) (hx : n ≤ 1000000000000000) (hy : m ≤ 1000000000000000) :
    Calls Tryd.prog 68 #[.slice A n ca, .slice B m cb] w fun e w' => e = .returned (.int .i64 (Nm.cmpI xs ys)) ∧ Below w.heap.size w w' := by
  subst hn
  subst hm
  go_enter Tryd.func68, Tryd.ntmps68
  go_wp2_with fail
  go_loopw [5] (fun iv wr => ∃ i : Nat, iv = .int .i64 i ∧ i ≤ xs.length ∧ i ≤ ys.length ∧ Hid (Nm.cmpI xs ys = Nm.cmpI (xs.drop i) (ys.drop i)) ∧ Below w.heap.size w wr) (fun iv _ => xs.length - (intOf iv).toNat)
  case atStart => exact ⟨0, rfl, by omega, by omega, rfl, Below.refl _ _⟩
  case round =>
    obtain ⟨i, rfl, hi, hi2, hcm, hbw⟩ := hrel
    by_cases h1 : i < xs.length
    · by_cases h2 : i < ys.length
      · obtain ⟨b1, o1, rfl, hb1, hc1⟩ := hA i h1
        obtain ⟨b2, o2, rfl, hb2, hc2⟩ := hB i h2
        have c1 := (hbw.cell (p := ⟨b1, o1 + i, none⟩) hb1).trans (hc1 i h1)
        have c2 := (hbw.cell (p := ⟨b2, o2 + i, none⟩) hb2).trans (hc2 i h2)
        have HB := Lib.hid (cmp_both h1 h2)
        clear hc1 hc2
        by_cases hl : gi xs i < gi ys i
        · have hlb : decide (gi xs i < gi ys i) = true := by simp [hl]
          have HF : Hid (Nm.cmpI xs ys = -1) := Lib.hid (by rw [hcm.out, HB.out, if_pos hl])
          clear hl HB
          go_wp2_with fail
          go_quiet (fail)
          go_wp2_with fail
          go_ret
          exact ⟨ret_int HF.out.symm, below_drewN hbw _⟩
        · have hlb : decide (gi xs i < gi ys i) = false := by simp [hl]
          by_cases hg : gi ys i < gi xs i
          · have hgb : decide (gi xs i > gi ys i) = true := by simpa using hg
            have hgb' : decide (gi ys i < gi xs i) = true := by simpa using hg
            have HF : Hid (Nm.cmpI xs ys = 1) := Lib.hid (by rw [hcm.out, HB.out, if_neg hl, if_pos hg])
            clear hl hg HB
            go_wp2_with fail
            go_quiet (fail)
            go_wp2_with fail
            go_quiet (fail)
            go_wp2_with fail
            go_ret
            exact ⟨ret_int HF.out.symm, below_drewN (below_drewN hbw _) _⟩
          · have hgb : decide (gi ys i < gi xs i) = false := by simp [hg]
            have HS : Hid (Nm.cmpI xs ys = Nm.cmpI (xs.drop (i + 1)) (ys.drop (i + 1))) := Lib.hid (by rw [hcm.out, HB.out, if_neg hl, if_neg hg])
            clear hl hg HB
            go_wp2_with fail
            go_quiet (fail)
            go_wp2_with fail
            go_quiet (fail)
            go_wp2_with fail
            go_roundw
            case rel => exact ⟨i + 1, by go_num, by omega, by omega, HS.out, below_drewN hbw _⟩
            case measure => simp [intOf]; omega
      · have HF : Hid (Nm.cmpI xs ys = 1) := Lib.hid (by rw [hcm.out, cmp_gt h1 (by omega)])
        go_wp2_with fail
        go_ret
        exact ⟨ret_int HF.out.symm, hbw⟩
    · by_cases h2 : i < ys.length
      · have HF : Hid (Nm.cmpI xs ys = -1) := Lib.hid (by rw [hcm.out, cmp_lt (by omega) h2])
        go_wp2_with fail
        go_ret
        exact ⟨ret_int HF.out.symm, hbw⟩
      · have HF : Hid (Nm.cmpI xs ys = 0) := Lib.hid (by rw [hcm.out, cmp_end (by omega) (by omega)])
        go_wp2_with fail
        go_ret
        exact ⟨ret_int HF.out.symm, hbw⟩

set_option maxHeartbeats 4000000 in
theorem compare_any (A B : Option Addr) (ca cb : Nat) (xs ys : List Int) (n m : Nat) (w : World) (hn : xs.length = n) (hm : ys.length = m) (hA : RI w A xs) (hB : RI w B ys) (hx : n ≤ 1000000000000000) (hy : m ≤ 1000000000000000) :
    Calls Tryd.prog 66 #[.slice A n ca, .slice B m cb] w fun e w' => e = .returned (.int .i64 (Nm.cmpI xs ys)) ∧ Below w.heap.size w w' := by
  subst hn
  subst hm
  go_enter Tryd.func66, Tryd.ntmps66
  go_wp2_with fail
  go_loopw [4, 5, 6, 7, 8, 11] (fun rv _ _ _ _ iv wr => ∃ i : Nat, rv = .int .i64 0 ∧ iv = .int .i64 i ∧ i ≤ xs.length ∧ i ≤ ys.length ∧ Hid (Nm.cmpI xs ys = Nm.cmpI (xs.drop i) (ys.drop i)) ∧ w = wr) (fun _ _ _ _ _ iv _ => xs.length - (intOf iv).toNat)
  case atStart => exact ⟨0, rfl, rfl, by omega, by omega, rfl, rfl⟩
  case round =>
    obtain ⟨i, rfl, rfl, hi, hi2, hcm, rfl⟩ := hrel
    by_cases h1 : i < xs.length
    · obtain ⟨b1, o1, rfl, hb1, hc1⟩ := hA i h1
      have c1 := hc1 i h1
      clear hc1
      by_cases h2 : i < ys.length
      · obtain ⟨b2, o2, rfl, hb2, hc2⟩ := hB i h2
        have c2 := hc2 i h2
        have HB := Lib.hid (cmp_both h1 h2)
        clear hc2
        have HC : Hid (Nm.cmpI xs ys = if gi xs i < gi ys i then -1 else if gi ys i < gi xs i then 1 else Nm.cmpI (xs.drop (i + 1)) (ys.drop (i + 1))) := Lib.hid (hcm.out.trans HB.out)
        by_cases he : Lib.compareInt (gi xs i) (gi ys i) = 0
        · have heb : (Lib.compareInt (gi xs i) (gi ys i) != 0) = false := by simp [he]
          have HS : Hid (Nm.cmpI xs ys = Nm.cmpI (xs.drop (i + 1)) (ys.drop (i + 1))) := Lib.hid (by
            rw [HC.out]
            unfold Lib.compareInt at he
            split at he
            · cases he
            · split at he
              · cases he
              · rw [if_neg (by assumption), if_neg (by omega)])
          clear he
          go_wp2_with (go_at_call 81; refine (cmpInt_k _ _ _).mono ?_; first | rintro e w' rfl rfl | rintro e w' ⟨rfl, rfl⟩)
          go_roundw
          case rel => exact ⟨i + 1, rfl, by go_num, by omega, by omega, HS.out, trivial⟩
          case measure => simp [intOf]; omega
        · have heb : (Lib.compareInt (gi xs i) (gi ys i) != 0) = true := by simp [he]
          have HF : Hid (Nm.cmpI xs ys = Lib.compareInt (gi xs i) (gi ys i)) := Lib.hid (by
            rw [HC.out]
            unfold Lib.compareInt at he ⊢
            split
            · rfl
            · split
              · rfl
              · rename_i h3 h4
                rw [if_neg h3, if_neg h4] at he
                exact absurd rfl he)
          clear he
          go_wp2_with (go_at_call 81; refine (cmpInt_k _ _ _).mono ?_; first | rintro e w' rfl rfl | rintro e w' ⟨rfl, rfl⟩)
          go_ret
          exact ⟨ret_int HF.out.symm, Below.refl _ _⟩
      · have HF : Hid (Nm.cmpI xs ys = 1) := Lib.hid (by rw [hcm.out, cmp_gt h1 (by omega)])
        go_wp2_with fail
        go_ret
        exact ⟨ret_int HF.out.symm, Below.refl _ _⟩
    · by_cases h2 : i < ys.length
      · have HF : Hid (Nm.cmpI xs ys = -1) := Lib.hid (by rw [hcm.out, cmp_lt (by omega) h2])
        go_wp2_with fail
        go_ret
        exact ⟨ret_int HF.out.symm, Below.refl _ _⟩
      · have HF : Hid (Nm.cmpI xs ys = 0) := Lib.hid (by rw [hcm.out, cmp_end (by omega) (by omega)])
        go_wp2_with fail
        go_ret
        exact ⟨ret_int HF.out.symm, Below.refl _ _⟩
end Go.Proofs.YtlcjfphhogcenaaDoor
