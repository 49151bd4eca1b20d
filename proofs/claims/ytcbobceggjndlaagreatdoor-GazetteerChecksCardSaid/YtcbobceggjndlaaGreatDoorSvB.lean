/-
  Lists of integers: strictly ascending; a predicate that no element meets (slices.IndexFunc, slices.ContainsFunc with a function value that may keep a state).
-/
import Derived.Test.YtcbobceggjndlaaGreatDoorSvA
import Derived.Shelf.Abstract
set_option linter.unusedVariables false
set_option linter.unusedSimpArgs false
namespace Go.Proofs.YtcbobceggjndlaaGreatDoor
open Go.RowKit

set_option maxHeartbeats 1000000 in
theorem indexI_none (g : Nat) (lb : Array Value) (eg : ∀ args w, (callFunc g args).run Tryz.prog w = .ok (.enter g args) w) (A : Option Addr) (c n : Nat) (xs : List Int) (w : World) (hn : xs.length = n) (hx : n ≤ 1000000) (Inv : Nat → World → Prop) (hI : Inv 0 w)
    (hread : ∀ k W, Inv k W → RI W A xs)
    (hstep : ∀ k W, k < n → Inv k W → Calls Tryz.prog g (#[.int .i64 (gi xs k)] ++ lb) W fun e W' => e = .returned (.bool false) ∧ Inv (k + 1) W') :
    Calls Tryz.prog 102 #[.slice A n c, .func (.func g) #[] lb] w fun e w' => e = .returned (.int .i64 (-1)) ∧ Inv n w' := by
  have HS := Lib.hid hstep
  have HR := Lib.hid hread
  clear hstep hread
  go_enter Tryz.func102, Tryz.ntmps102
  go_wp2_with fail
  go_loopw [5, 8] (fun _ iv wr => ∃ i : Nat, iv = .int .i64 i ∧ i ≤ n ∧ Inv i wr) (fun _ iv _ => n - (intOf iv).toNat)
  case atStart => exact ⟨0, rfl, by omega, hI⟩
  case round =>
    obtain ⟨i, rfl, hi, hJ⟩ := hrel
    by_cases hlt : i < n
    · obtain ⟨b1, o1, rfl, hbb1, hc1⟩ := HR.out i wr hJ i (by omega)
      have cc := hc1 i (by omega)
      clear hc1
      go_wp2_with fail
      refine (HS.out i _ hlt hJ).mono ?_
      first | rintro e w1 rfl hJ1 | rintro e w1 ⟨rfl, hJ1⟩
      go_wp2_with fail
      go_roundw
      case rel => exact ⟨i + 1, by go_num, by omega, hJ1⟩
      case measure => simp [intOf]; omega
    · obtain rfl : i = n := by omega
      go_wp2_with fail
      go_ret
      exact ⟨rfl, hJ⟩
theorem containsI_none (g : Nat) (lb : Array Value) (eg : ∀ args w, (callFunc g args).run Tryz.prog w = .ok (.enter g args) w) (A : Option Addr) (c n : Nat) (xs : List Int) (w : World) (hn : xs.length = n) (hx : n ≤ 1000000) (Inv : Nat → World → Prop) (hI : Inv 0 w)
    (hread : ∀ k W, Inv k W → RI W A xs)
    (hstep : ∀ k W, k < n → Inv k W → Calls Tryz.prog g (#[.int .i64 (gi xs k)] ++ lb) W fun e W' => e = .returned (.bool false) ∧ Inv (k + 1) W') :
    Calls Tryz.prog 80 #[.slice A n c, .func (.func g) #[] lb] w fun e w' => e = .returned (.bool false) ∧ Inv n w' := by
  have HC := Lib.hid (indexI_none g lb eg A c n xs w hn hx Inv hI hread hstep)
  clear hstep hread eg
  go_enter Tryz.func80, Tryz.ntmps80
  go_wp2_with fail
  refine HC.out.mono ?_
  first | rintro e w1 rfl hJ1 | rintro e w1 ⟨rfl, hJ1⟩
  go_wp2_with fail
  go_ret
  exact ⟨rfl, hJ1⟩

/-- Strictly ascending. -/
def Asc (xs : List Int) : Prop := ∀ i, i + 1 < xs.length → gi xs i < gi xs (i + 1)

set_option maxHeartbeats 1000000 in
theorem ascending_ok (A : Option Addr) (c n : Nat) (xs : List Int) (w : World) (hn : xs.length = n) (hx : n ≤ 1000000) (hA : RI w A xs) (ha : Asc xs) :
    Calls Tryz.prog 139 #[.slice A n c] w fun e w' => e = .returned (.bool true) ∧ Below w.heap.size w w' := by
  have HA := Lib.hid ha
  clear ha
  go_enter Tryz.func139, Tryz.ntmps139
  go_wp2_with fail
  go_loopw [3] (fun iv wr => ∃ i : Nat, iv = .int .i64 (i + 1 : Nat) ∧ (i = 0 ∨ i + 1 ≤ n) ∧ Below w.heap.size w wr) (fun iv _ => n - (intOf iv).toNat)
  case atStart => exact ⟨0, rfl, Or.inl rfl, Below.refl _ _⟩
  case round =>
    obtain ⟨i, rfl, hi, hbw⟩ := hrel
    have ei : ((i + 1 : Nat) : Int) = (i : Int) + 1 := by omega
    rw [ei]
    clear ei
    by_cases hlt : i + 1 < n
    · obtain ⟨b1, o1, rfl, hbb1, hc1⟩ := hA i (by omega)
      have c1 := (hbw.cell (p := ⟨b1, o1 + i, none⟩) hbb1).trans (hc1 i (by omega))
      have c2 := (hbw.cell (p := ⟨b1, o1 + (i + 1), none⟩) hbb1).trans (hc1 (i + 1) (by omega))
      have hlt' := HA.out i (by omega)
      have hb : decide (gi xs (i + 1) ≤ gi xs i) = false := decide_eq_false (by omega)
      clear hc1 hlt'
      go_wp2_with fail
      go_quiet (fail)
      go_wp2_with fail
      go_roundw
      case rel => exact ⟨i + 1, by go_num, by omega, below_drewN hbw _⟩
      case measure => simp [intOf]; omega
    · go_wp2_with fail
      go_ret
      exact ⟨rfl, hbw⟩
set_option maxHeartbeats 1000000 in
theorem valid_ok (A : Option Addr) (c n : Nat) (xs : List Int) (w : World) (hn : xs.length = n) (hx : n ≤ 1000000) (hA : RI w A xs) (ha : Asc xs) :
    Calls Tryz.prog 79 #[.slice A n c] w fun e w' => e = .returned (.bool true) ∧ Below w.heap.size w w' := by
  have HA := Lib.hid ha
  clear ha
  go_enter Tryz.func79, Tryz.ntmps79
  go_wp2_with fail
  go_loopw [3] (fun iv wr => ∃ i : Nat, iv = .int .i64 (i + 1 : Nat) ∧ (i = 0 ∨ i + 1 ≤ n) ∧ Below w.heap.size w wr) (fun iv _ => n - (intOf iv).toNat)
  case atStart => exact ⟨0, rfl, Or.inl rfl, Below.refl _ _⟩
  case round =>
    obtain ⟨i, rfl, hi, hbw⟩ := hrel
    have ei : ((i + 1 : Nat) : Int) = (i : Int) + 1 := by omega
    rw [ei]
    clear ei
    by_cases hlt : i + 1 < n
    · obtain ⟨b1, o1, rfl, hbb1, hc1⟩ := hA i (by omega)
      have c1 := (hbw.cell (p := ⟨b1, o1 + i, none⟩) hbb1).trans (hc1 i (by omega))
      have c2 := (hbw.cell (p := ⟨b1, o1 + (i + 1), none⟩) hbb1).trans (hc1 (i + 1) (by omega))
      have hlt' := HA.out i (by omega)
      have hb : decide (gi xs (i + 1) ≤ gi xs i) = false := decide_eq_false (by omega)
      clear hc1 hlt'
      go_wp2_with fail
      go_quiet (fail)
      go_wp2_with fail
      go_roundw
      case rel => exact ⟨i + 1, by go_num, by omega, below_drewN hbw _⟩
      case measure => simp [intOf]; omega
    · go_wp2_with fail
      go_ret
      exact ⟨rfl, hbw⟩

theorem num1_ok (r : Int) (w : World) (h1 : 1 ≤ r) (h2 : r ≤ 1073741824) : Calls Tryz.prog 159 #[.int .i64 r] w fun e w' => e = .returned (.bool false) ∧ w = w' := by
  go_enter Tryz.func159, Tryz.ntmps159
  go_wp2_with fail
  go_ret
  exact ⟨ret_bool (by simp; omega), rfl⟩
theorem numbered_ok (A : Option Addr) (c n : Nat) (xs : List Int) (w : World) (hn : xs.length = n) (hx : n ≤ 1000000) (hA : RI w A xs) (hr : ∀ i, i < n → 1 ≤ gi xs i ∧ gi xs i ≤ 1073741824) :
    Calls Tryz.prog 140 #[.slice A n c] w fun e w' => e = .returned (.bool true) ∧ Below w.heap.size w w' := by
  have HR := Lib.hid hr
  clear hr
  go_enter Tryz.func140, Tryz.ntmps140
  go_wp2_with fail
  refine (containsI_none 159 #[] (enters_of Tryz.func159 (by kernel_rfl) rfl) A c n xs w hn hx (fun _ W => Below w.heap.size w W) (Below.refl _ _) (fun _ W hb => hA.below hb) (fun k W hk hb => ?_)).mono ?_
  · refine (num1_ok (gi xs k) W (HR.out k hk).1 (HR.out k hk).2).mono ?_
    rintro e W' ⟨rfl, rfl⟩
    exact ⟨rfl, hb⟩
  first | rintro e w1 rfl hb1 | rintro e w1 ⟨rfl, hb1⟩
  go_wp2_with fail
  go_ret
  exact ⟨rfl, hb1⟩
theorem shape_point (kind : Int) (w : World) (h : kind = 1 ∨ kind = 2 ∨ kind = 8) : Calls Tryz.prog 46 #[.int .i64 kind] w fun e w' => e = .returned (.int .i64 1) ∧ w = w' := by
  rcases h with rfl | rfl | rfl
  · go_enter Tryz.func46, Tryz.ntmps46
    go_wp2_with fail
    go_ret
    exact ⟨rfl, rfl⟩
  · go_enter Tryz.func46, Tryz.ntmps46
    go_wp2_with fail
    go_ret
    exact ⟨rfl, rfl⟩
  · go_enter Tryz.func46, Tryz.ntmps46
    go_wp2_with fail
    go_ret
    exact ⟨rfl, rfl⟩
end Go.Proofs.YtcbobceggjndlaaGreatDoor
