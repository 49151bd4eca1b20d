/-
  Symbols: Check of the reference.
-/
import Derived.Test.YtdbhijkfhcgojaaGreatDoorSyG
set_option linter.unusedVariables false
set_option linter.unusedSimpArgs false
namespace Go.Proofs.YtdbhijkfhcgojaaGreatDoor
open Go.RowKit

theorem ryranges_at (s : Sym) (b : Bool) (w : World) (h : decide (Sy.ranges s) = b) : Calls Tryz.prog 18 #[.agg #[.int .i64 s.kind, .int .i64 s.cls, .int .i64 s.w, .int .i64 s.h, .int .i64 s.l, .int .i64 s.i0, .int .i64 s.i1, .int .i64 s.i2, .int .i64 s.i3]] w fun e w' => e = .returned (.bool b) ∧ Below w.heap.size w w' := by
  subst h; exact ryranges_any s w

set_option maxRecDepth 4000 in
set_option maxHeartbeats 16000000 in
theorem rycheck_any (A : Option Addr) (c n : Nat) (ss : List Sym) (w : World) (hn : ss.length = n) (hx : n ≤ 1000000000000) (hA : RSy w A ss) :
    Calls Tryz.prog 10 #[.slice A n c] w fun e w' => e = .returned (.int .i64 (Sy.check ss)) ∧ Below w.heap.size w w' := by
  by_cases h72 : (n : Int) ≤ 72
  rotate_left
  · have HB := Lib.hid (Sy.check_limit (ss := ss) (by omega))
    have h73 : (72 : Int) < n := by omega
    go_enter Tryz.func10, Tryz.ntmps10
    go_wp2_with fail
    go_ret
    exact ⟨by rw [HB.out]; rfl, Below.refl _ _⟩
  go_enter Tryz.func10, Tryz.ntmps10
  go_wp2_with fail
  go_loopw [3] (fun iv wr => ∃ i : Nat, iv = .int .i64 i ∧ i ≤ n ∧ Hid (∀ j, j < i → Sy.kindOk (sy ss j)) ∧ Below w.heap.size w wr) (fun iv _ => n - (intOf iv).toNat)
  case atStart => exact ⟨0, rfl, by omega, fun j hj => absurd hj (by omega), Below.refl _ _⟩
  case round =>
    obtain ⟨i, rfl, hi, hall, hbw⟩ := hrel
    have hzr := hbw.size
    by_cases hlt : i < n
    · obtain ⟨b1, o1, rfl, hbb1, hc1⟩ := hA i (by omega)
      have hs := (hc1 i (by omega)).below hbw hbb1
      obtain ⟨d0, d1, d2, d3, d4, d5, d6, d7, d8⟩ := hs
      clear hc1 hA
      by_cases hk1 : 1 ≤ (sy ss i).kind ∧ (sy ss i).kind ≤ 8
      rotate_left
      · have HB := Lib.hid (Sy.check_kind (ss := ss) (by omega) (show i < ss.length by omega) hk1)
        go_wp2_with fail
        refine (rin_at _ _ _ false _ (decide_eq_false hk1)).mono ?_
        first | rintro e w1 rfl rfl | rintro e w1 ⟨rfl, rfl⟩
        go_wp2_with fail
        go_ret
        exact ⟨by rw [HB.out]; rfl, hbw⟩
      have HN := Lib.hid (show Sy.kindOk (sy ss i) from hk1)
      go_wp2_with fail
      refine (rin_at _ _ _ true _ (decide_eq_true hk1)).mono ?_
      first | rintro e w1 rfl rfl | rintro e w1 ⟨rfl, rfl⟩
      go_wp2_with fail
      go_roundw
      case rel => exact ⟨i + 1, by go_num, by omega, all_snoc hall.out HN.out, hbw⟩
      case measure => simp [intOf]; omega
    · obtain rfl : i = n := by omega
      have HK : Hid (∀ j, j < ss.length → Sy.kindOk (sy ss j)) := Lib.hid (fun j hj => hall.out j (by omega))
      clear hall hi hlt
      go_wp2_with fail
      go_loopw [4] (fun iv wr => ∃ i' : Nat, iv = .int .i64 i' ∧ i' ≤ i ∧ Hid (∀ j, j < i' → Sy.ranges (sy ss j)) ∧ Below w.heap.size w wr) (fun iv _ => i - (intOf iv).toNat)
      case atStart => exact ⟨0, rfl, by omega, fun j hj => absurd hj (by omega), hbw⟩
      case round =>
        clear hbw hzr
        rename_i wr0 wr
        obtain ⟨k, rfl, hi, hall, hbw⟩ := hrel
        have hzr := hbw.size
        by_cases hlt : k < i
        · obtain ⟨b1, o1, rfl, hbb1, hc1⟩ := hA k (by omega)
          have hs := (hc1 k (by omega)).below hbw hbb1
          obtain ⟨d0, d1, d2, d3, d4, d5, d6, d7, d8⟩ := hs
          clear hc1 hA
          by_cases hr : Sy.ranges (sy ss k)
          rotate_left
          · have HB := Lib.hid (Sy.check_range (ss := ss) (by omega) HK.out (show k < ss.length by omega) hr)
            go_wp2_with fail
            refine (ryranges_at (sy ss k) false _ (decide_eq_false hr)).mono ?_
            first | rintro e w1 rfl hb1 | rintro e w1 ⟨rfl, hb1⟩
            go_wp2_with fail
            go_ret
            exact ⟨by rw [HB.out]; rfl, hbw.trans (hb1.mono hzr)⟩
          have HN := Lib.hid hr
          go_wp2_with fail
          refine (ryranges_at (sy ss k) true _ (decide_eq_true hr)).mono ?_
          first | rintro e w1 rfl hb1 | rintro e w1 ⟨rfl, hb1⟩
          go_wp2_with fail
          go_roundw
          case rel => exact ⟨k + 1, by go_num, by omega, all_snoc hall.out HN.out, hbw.trans (hb1.mono hzr)⟩
          case measure => simp [intOf]; omega
        · obtain rfl : k = i := by omega
          have HR : Hid (∀ j, j < ss.length → Sy.ranges (sy ss j)) := Lib.hid (fun j hj => hall.out j (by omega))
          clear hall hi hlt
          go_wp2_with fail
          go_loopw [5] (fun iv wr => ∃ i' : Nat, iv = .int .i64 (i' + 1 : Nat) ∧ (i' = 0 ∨ i' + 1 ≤ k) ∧ Hid (∀ j, j < i' → Sy.lt (sy ss j) (sy ss (j + 1))) ∧ Below w.heap.size w wr) (fun iv _ => k - (intOf iv).toNat)
          case atStart => exact ⟨0, rfl, Or.inl rfl, fun j hj => absurd hj (by omega), hbw⟩
          case round =>
            clear hbw hzr
            rename_i wr1 wr
            obtain ⟨i, rfl, hi, hall, hbw⟩ := hrel
            have hzr := hbw.size
            have ei : ((i + 1 : Nat) : Int) = (i : Int) + 1 := by omega
            rw [ei]
            clear ei
            by_cases hlt : i + 1 < k
            · obtain ⟨b1, o1, rfl, hbb1, hc1⟩ := hA i (by omega)
              have hs := (hc1 i (by omega)).below hbw hbb1
              have ht := (hc1 (i + 1) (by omega)).below hbw hbb1
              obtain ⟨d0, d1, _, _, _, _, _, _, _⟩ := hs
              obtain ⟨e0, e1, _, _, _, _, _, _, _⟩ := ht
              clear hc1 hA
              have x1 : (0 : Int) ≤ i := by omega
              have x2 : (i : Int) < k := by omega
              have x3 : (i : Int) + 1 < k := by omega
              have y2 : i < k := by omega
              have y4 : (0 : Int) ≤ (i : Int) + 1 := by omega
              by_cases g1 : (sy ss (i + 1)).kind < (sy ss i).kind
              · have HB := Lib.hid (Sy.check_order (ss := ss) (by omega) HK.out HR.out (show i + 1 < ss.length by omega) (by unfold Sy.lt; omega))
                have g1b : decide ((sy ss (i + 1)).kind < (sy ss i).kind) = true := decide_eq_true g1
                go_wp2_with fail
                go_quiet (fail)
                go_wp2_with fail
                go_ret
                exact ⟨by rw [HB.out]; rfl, below_drewN hbw _⟩
              have g1b : decide ((sy ss (i + 1)).kind < (sy ss i).kind) = false := decide_eq_false g1
              by_cases g2 : (sy ss (i + 1)).kind = (sy ss i).kind
              · have g2b : ((sy ss (i + 1)).kind == (sy ss i).kind) = true := by simp [g2]
                by_cases g3 : (sy ss (i + 1)).cls ≤ (sy ss i).cls
                · have HB := Lib.hid (Sy.check_order (ss := ss) (by omega) HK.out HR.out (show i + 1 < ss.length by omega) (by unfold Sy.lt; omega))
                  have g3b : decide ((sy ss (i + 1)).cls ≤ (sy ss i).cls) = true := decide_eq_true g3
                  clear g2
                  go_wp2_with fail
                  go_quiet (fail)
                  go_wp2_with fail
                  go_ret
                  exact ⟨by rw [HB.out]; rfl, below_drewN hbw _⟩
                have g3b : decide ((sy ss (i + 1)).cls ≤ (sy ss i).cls) = false := decide_eq_false g3
                have HN := Lib.hid (show Sy.lt (sy ss i) (sy ss (i + 1)) by unfold Sy.lt; omega)
                clear g2
                go_wp2_with fail
                go_quiet (fail)
                go_wp2_with fail
                go_roundw
                case rel => exact ⟨i + 1, by go_num, by omega, all_snoc hall.out HN.out, below_drewN hbw _⟩
                case measure => simp [intOf]; omega
              · have g2b : ((sy ss (i + 1)).kind == (sy ss i).kind) = false := by simp [g2]
                have HN := Lib.hid (show Sy.lt (sy ss i) (sy ss (i + 1)) by unfold Sy.lt; omega)
                clear g2
                go_wp2_with fail
                go_quiet (fail)
                go_wp2_with fail
                go_roundw
                case rel => exact ⟨i + 1, by go_num, by omega, all_snoc hall.out HN.out, below_drewN hbw _⟩
                case measure => simp [intOf]; omega
            · have HB := Lib.hid (Sy.check_ok (ss := ss) (by omega) HK.out HR.out (fun j hj => hall.out j (by omega)))
              go_wp2_with fail
              go_ret
              exact ⟨by rw [HB.out]; rfl, hbw⟩
end Go.Proofs.YtdbhijkfhcgojaaGreatDoor
