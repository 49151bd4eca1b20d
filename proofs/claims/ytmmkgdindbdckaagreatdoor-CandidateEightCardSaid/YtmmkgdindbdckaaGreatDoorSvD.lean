/-
  Sorting no element; planar at a plan without arcs.
-/
import Derived.Test.YtmmkgdindbdckaaGreatDoorSvC
import Derived.Test.YtmmkgdindbdckaaGreatDoorShelf
import Derived.Maps.Own
set_option linter.unusedVariables false
set_option linter.unusedSimpArgs false
namespace Go.Proofs.YtmmkgdindbdckaaGreatDoor
open Go.RowKit

theorem insS_none (A : Option Addr) (c : Nat) (f : Value) (w : World) : Calls Tryz.prog 167 #[.slice A 0 c, .int .i64 0, .int .i64 0, f] w fun e w' => e = .returned (.tuple #[]) ∧ w = w' := by
  go_enter Tryz.func167, Tryz.ntmps167
  go_wp2_with fail
  go_rounds 1
  go_returns
  exact ⟨rfl, rfl⟩
theorem insFI_none (A : Option Addr) (c : Nat) (f : Value) (w : World) : Calls Tryz.prog 149 #[.slice A 0 c, .int .i64 0, .int .i64 0, f] w fun e w' => e = .returned (.tuple #[]) ∧ w = w' := by
  go_enter Tryz.func149, Tryz.ntmps149
  go_wp2_with fail
  go_rounds 1
  go_returns
  exact ⟨rfl, rfl⟩
theorem insO_none (A : Option Addr) (c : Nat) (w : World) : Calls Tryz.prog 125 #[.slice A 0 c, .int .i64 0, .int .i64 0] w fun e w' => e = .returned (.tuple #[]) ∧ w = w' := by
  go_enter Tryz.func125, Tryz.ntmps125
  go_wp2_with fail
  go_rounds 1
  go_returns
  exact ⟨rfl, rfl⟩
theorem pdqS_none (A : Option Addr) (c : Nat) (f : Value) (k : Int) (w : World) : Calls Tryz.prog 146 #[.slice A 0 c, .int .i64 0, .int .i64 0, .int .i64 k, f] w fun e w' => e = .returned (.tuple #[]) ∧ w = w' := by
  go_enter Tryz.func146, Tryz.ntmps146
  go_wp2_with fail
  refine wp_loop_rounds 1 ?_
  rw [rounds_succ]
  go_wp2_with fail
  refine (insS_none _ _ _ _).mono ?_
  first | rintro e w1 rfl rfl | rintro e w1 ⟨rfl, rfl⟩
  go_wp2_with fail
  go_returns
  exact ⟨rfl, rfl⟩
theorem pdqFI_none (A : Option Addr) (c : Nat) (f : Value) (k : Int) (w : World) : Calls Tryz.prog 121 #[.slice A 0 c, .int .i64 0, .int .i64 0, .int .i64 k, f] w fun e w' => e = .returned (.tuple #[]) ∧ w = w' := by
  go_enter Tryz.func121, Tryz.ntmps121
  go_wp2_with fail
  refine wp_loop_rounds 1 ?_
  rw [rounds_succ]
  go_wp2_with fail
  refine (insFI_none _ _ _ _).mono ?_
  first | rintro e w1 rfl rfl | rintro e w1 ⟨rfl, rfl⟩
  go_wp2_with fail
  go_returns
  exact ⟨rfl, rfl⟩
theorem pdqO_none (A : Option Addr) (c : Nat) (k : Int) (w : World) : Calls Tryz.prog 99 #[.slice A 0 c, .int .i64 0, .int .i64 0, .int .i64 k] w fun e w' => e = .returned (.tuple #[]) ∧ w = w' := by
  go_enter Tryz.func99, Tryz.ntmps99
  go_wp2_with fail
  refine wp_loop_rounds 1 ?_
  rw [rounds_succ]
  go_wp2_with fail
  refine (insO_none _ _ _).mono ?_
  first | rintro e w1 rfl rfl | rintro e w1 ⟨rfl, rfl⟩
  go_wp2_with fail
  go_returns
  exact ⟨rfl, rfl⟩
theorem bits0 (w : World) : Calls Tryz.prog 100 #[.int .u64 0] w fun e w' => e = .returned (.int .i64 0) ∧ w = w' := by
  refine (Tryz.bits_Len 0 w (by decide) (by decide)).mono ?_
  rintro e w' ⟨rfl, rfl⟩
  exact ⟨rfl, rfl⟩
theorem sortS_none (A : Option Addr) (c : Nat) (f : Value) (w : World) : Calls Tryz.prog 111 #[.slice A 0 c, f] w fun e w' => e = .returned (.tuple #[]) ∧ w = w' := by
  go_enter Tryz.func111, Tryz.ntmps111
  go_wp2_with fail
  refine (bits0 _).mono ?_
  first | rintro e w1 rfl rfl | rintro e w1 ⟨rfl, rfl⟩
  go_wp2_with fail
  refine (pdqS_none _ _ _ _ _).mono ?_
  first | rintro e w1 rfl rfl | rintro e w1 ⟨rfl, rfl⟩
  go_wp2_with fail
  go_returns
  exact ⟨rfl, rfl⟩
theorem sortFI_none (A : Option Addr) (c : Nat) (f : Value) (w : World) : Calls Tryz.prog 96 #[.slice A 0 c, f] w fun e w' => e = .returned (.tuple #[]) ∧ w = w' := by
  go_enter Tryz.func96, Tryz.ntmps96
  go_wp2_with fail
  refine (bits0 _).mono ?_
  first | rintro e w1 rfl rfl | rintro e w1 ⟨rfl, rfl⟩
  go_wp2_with fail
  refine (pdqFI_none _ _ _ _ _).mono ?_
  first | rintro e w1 rfl rfl | rintro e w1 ⟨rfl, rfl⟩
  go_wp2_with fail
  go_returns
  exact ⟨rfl, rfl⟩
theorem sortO_none (A : Option Addr) (c : Nat) (w : World) : Calls Tryz.prog 79 #[.slice A 0 c] w fun e w' => e = .returned (.tuple #[]) ∧ w = w' := by
  go_enter Tryz.func79, Tryz.ntmps79
  go_wp2_with fail
  refine (bits0 _).mono ?_
  first | rintro e w1 rfl rfl | rintro e w1 ⟨rfl, rfl⟩
  go_wp2_with fail
  refine (pdqO_none _ _ _ _).mono ?_
  first | rintro e w1 rfl rfl | rintro e w1 ⟨rfl, rfl⟩
  go_wp2_with fail
  go_returns
  exact ⟨rfl, rfl⟩
end Go.Proofs.YtmmkgdindbdckaaGreatDoor
