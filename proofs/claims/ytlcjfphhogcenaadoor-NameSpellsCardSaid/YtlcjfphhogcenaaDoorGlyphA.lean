/-
  Walks of layer 6: Script, digit, Width, Fold, of the program and of the reference.
-/
import Derived.Test.YtlcjfphhogcenaaDoorBase
set_option linter.unusedVariables false
set_option linter.unusedSimpArgs false
namespace Go.Proofs.YtlcjfphhogcenaaDoor
open Go.RowKit

theorem rdigit_any (r : Int) (w : World) :
    Calls Tryd.prog 51 #[.int .i64 r] w fun e w' => e = .returned (.bool (Gl.digit r)) ∧ w = w' := by
  go_enter Tryd.func51, Tryd.ntmps51
  go_wp2
  all_goals go_ret
  all_goals exact ⟨ret_bool (by unfold Gl.digit; simp; try omega), rfl⟩

theorem gdigit_any (r : Int) (w : World) :
    Calls Tryd.prog 52 #[.int .i64 r] w fun e w' => e = .returned (.bool (Gl.digit r)) ∧ w = w' := by
  go_enter Tryd.func52, Tryd.ntmps52
  go_wp2
  all_goals go_ret
  all_goals exact ⟨ret_bool (by unfold Gl.digit; simp; try omega), rfl⟩

set_option maxHeartbeats 1000000 in
theorem rscript_any (r : Int) (w : World) :
    Calls Tryd.prog 26 #[.int .i64 r] w fun e w' => e = .returned (.int .i64 (Gl.script r)) ∧ w = w' := by
  go_enter Tryd.func26, Tryd.ntmps26
  go_wp2
  all_goals go_ret
  all_goals exact ⟨ret_int (by unfold Gl.script; first | omega | (simp at *; omega)), rfl⟩

theorem idx (k : Nat) (hk : k < 13) (w : World) : (Instr.index 61 (.agg Gl.tab) (.int .i64 (k : Int))).run Tryd.prog w = .ok (.agg #[.int .i32 (Gl.lo k), .int .i32 (Gl.hi k), .int .i64 (Gl.sc k)]) w := by
  obtain rfl | rfl | rfl | rfl | rfl | rfl | rfl | rfl | rfl | rfl | rfl | rfl | rfl : k = 0 ∨ k = 1 ∨ k = 2 ∨ k = 3 ∨ k = 4 ∨ k = 5 ∨ k = 6 ∨ k = 7 ∨ k = 8 ∨ k = 9 ∨ k = 10 ∨ k = 11 ∨ k = 12 := by omega
  all_goals kernel_rfl
theorem tabsz : (Tryd.prog.info? 61).map (·.size) = some Gl.tab.size := by kernel_rfl

set_option maxHeartbeats 1000000 in
theorem gscript_any (r : Int) (w : World) (ht : Gl.Tab w) :
    Calls Tryd.prog 25 #[.int .i64 r] w fun e w' => e = .returned (.int .i64 (Gl.script r)) ∧ Below w.heap.size w w' := by
  obtain ⟨t, fr, hg⟩ := ht
  by_cases h0 : r < 0
  · go_enter Tryd.func25, Tryd.ntmps25
    go_wp2
    go_ret
    exact ⟨ret_int (by unfold Gl.script; omega), Below.refl _ _⟩
  by_cases h1 : 1114111 < r
  · go_enter Tryd.func25, Tryd.ntmps25
    go_wp2
    go_ret
    exact ⟨ret_int (by unfold Gl.script; omega), Below.refl _ _⟩
  go_enter Tryd.func25, Tryd.ntmps25
  go_wp2_with (refine wpList_load_row rfl 61 _ rfl 0 rfl t _ fr _ hg Tryd.underlying61 rfl tabsz ?_)
  go_loopw [15] (fun i wr => ∃ k : Nat, k ≤ 13 ∧ i = .int .i64 k ∧ Hid (∀ j, j < k → ¬ (Gl.lo j ≤ r ∧ r ≤ Gl.hi j)) ∧ Below w.heap.size w wr) (fun i _ => 13 - (intOf i).toNat)
  case atStart => exact ⟨0, by omega, rfl, fun j hj => absurd hj (by omega), Below.refl _ _⟩
  case round =>
    obtain ⟨k, hk, rfl, hn, hb⟩ := hrel
    by_cases hlt : k < 13
    · have hi := fun W => idx k hlt W
      have hsz := hb.size
      by_cases h2 : Gl.lo k ≤ r
      · by_cases h3 : r ≤ Gl.hi k
        · go_wp2
          go_ret
          exact ⟨ret_int (Gl.scan_hit r k hlt h2 h3), hb.alloc hsz _⟩
        · go_wp2
          go_roundw
          case rel => exact ⟨k + 1, by omega, by go_num, no_snoc hn.out (fun h => h3 h.2), hb.alloc hsz _⟩
          case measure => simp [intOf]; omega
      · go_wp2
        go_roundw
        case rel => exact ⟨k + 1, by omega, by go_num, no_snoc hn.out (fun h => h2 h.1), hb.alloc hsz _⟩
        case measure => simp [intOf]; omega
    · obtain rfl : k = 13 := by omega
      go_wp2
      go_ret
      exact ⟨ret_int (Gl.scan_miss r hn.out), hb⟩

set_option maxHeartbeats 4000000 in
theorem rfold_any (r : Int) (w : World) (h1 : -9223372036854775808 ≤ r) (h2 : r ≤ 9223372036854775807) :
    Calls Tryd.prog 30 #[.int .i64 r] w fun e w' => e = .returned (.int .i64 (Gl.fold r)) ∧ w = w' := by
  go_enter Tryd.func30, Tryd.ntmps30
  go_wp2
  all_goals go_ret
  all_goals exact ⟨ret_int (by unfold Gl.fold; first | omega | (simp at *; omega)), rfl⟩

theorem within_any (a b r : Int) (p : Addr) (w : World) (hc : w.cell? p = some (.int .i64 r)) (ha : 0 ≤ a) (ha' : a ≤ 100000) (hb : 0 ≤ b) (hb' : b ≤ 100000) :
    Calls Tryd.prog 53 #[.int .i32 a, .int .i32 b, .pointer (some p)] w fun e w' => e = .returned (.bool (decide (a ≤ r) && decide (r ≤ b))) ∧ w = w' := by
  by_cases h1 : a ≤ r
  · have h1' : decide (a ≤ r) = true := by simpa using h1
    go_enter Tryd.func53, Tryd.ntmps53
    go_wp2
    go_ret
    exact ⟨ret_bool (by simp [h1]), rfl⟩
  · have h1' : decide (a ≤ r) = false := by simpa using h1
    go_enter Tryd.func53, Tryd.ntmps53
    go_wp2
    go_ret
    exact ⟨ret_bool (by simp), rfl⟩
set_option maxHeartbeats 4000000 in
theorem gfold_any (r : Int) (w : World) (h1 : -9223372036854775808 ≤ r) (h2 : r ≤ 9223372036854775807) :
    Calls Tryd.prog 29 #[.int .i64 r] w fun e w' => e = .returned (.int .i64 (Gl.fold r)) ∧ Below w.heap.size w w' := by
  have hb : Below w.heap.size w (w.alloc (.cells #[.int .i64 r] 3)) := (Below.refl _ _).alloc (Nat.le_refl _) _
  have HB := Lib.hid hb
  clear hb
  go_enter Tryd.func29, Tryd.ntmps29
  go_wp2_with (go_at_call 53; refine (within_any _ _ r _ _ (by simp [go_sem]) (by omega) (by omega) (by omega) (by omega)).mono ?_; rintro e w' ⟨rfl, rfl⟩)
  all_goals go_ret
  all_goals exact ⟨ret_int (by unfold Gl.fold; first | omega | (simp at *; omega)), HB.out⟩
end Go.Proofs.YtlcjfphhogcenaaDoor
