/-
  Symbols: Check of the program.
-/
import Derived.Test.YtdbhijkfhcgojaaGreatDoorSyF
import Derived.Deep.RegionHeld3
set_option linter.unusedVariables false
set_option linter.unusedSimpArgs false
namespace Go.Proofs.YtdbhijkfhcgojaaGreatDoor
open Go.RowKit

def Sy.kindOk (s : Sym) : Prop := 1 ≤ s.kind ∧ s.kind ≤ 8
instance (s : Sym) : Decidable (Sy.kindOk s) := by unfold Sy.kindOk; infer_instance
/-- Does a symbol come before another one? -/
def Sy.lt (a b : Sym) : Prop := a.kind < b.kind ∨ a.kind = b.kind ∧ a.cls < b.cls
instance (a b : Sym) : Decidable (Sy.lt a b) := by unfold Sy.lt; infer_instance
/-- The error of a list. -/
def Sy.check (ss : List Sym) : Int :=
  if 72 < ss.length then 3 else if ∀ j, j < ss.length → Sy.kindOk (sy ss j) then (if ∀ j, j < ss.length → Sy.ranges (sy ss j) then (if ∀ j, j < ss.length - 1 → Sy.lt (sy ss j) (sy ss (j + 1)) then 0 else 10) else 2) else 9
theorem Sy.check_limit {ss : List Sym} (h : 72 < ss.length) : Sy.check ss = 3 := by unfold Sy.check; rw [if_pos h]
theorem Sy.check_kind {ss : List Sym} (h : ss.length ≤ 72) {j : Nat} (hj : j < ss.length) (hk : ¬ Sy.kindOk (sy ss j)) : Sy.check ss = 9 := by
  unfold Sy.check; rw [if_neg (by omega), if_neg (fun hh => hk (hh j hj))]
theorem Sy.check_range {ss : List Sym} (h : ss.length ≤ 72) (h1 : ∀ j, j < ss.length → Sy.kindOk (sy ss j)) {j : Nat} (hj : j < ss.length) (hk : ¬ Sy.ranges (sy ss j)) : Sy.check ss = 2 := by
  unfold Sy.check; rw [if_neg (by omega), if_pos h1, if_neg (fun hh => hk (hh j hj))]
theorem Sy.check_order {ss : List Sym} (h : ss.length ≤ 72) (h1 : ∀ j, j < ss.length → Sy.kindOk (sy ss j)) (h2 : ∀ j, j < ss.length → Sy.ranges (sy ss j)) {j : Nat} (hj : j + 1 < ss.length) (hk : ¬ Sy.lt (sy ss j) (sy ss (j + 1))) : Sy.check ss = 10 := by
  unfold Sy.check; rw [if_neg (by omega), if_pos h1, if_pos h2, if_neg (fun hh => hk (hh j (by omega)))]
theorem Sy.check_ok {ss : List Sym} (h : ss.length ≤ 72) (h1 : ∀ j, j < ss.length → Sy.kindOk (sy ss j)) (h2 : ∀ j, j < ss.length → Sy.ranges (sy ss j)) (h3 : ∀ j, j + 1 < ss.length → Sy.lt (sy ss j) (sy ss (j + 1))) : Sy.check ss = 0 := by
  unfold Sy.check; rw [if_neg (by omega), if_pos h1, if_pos h2, if_pos (fun j hj => h3 j (by omega))]
theorem all_snoc {P : Nat → Prop} {i : Nat} (h : ∀ j, j < i → P j) (hi : P i) : ∀ j, j < i + 1 → P j :=
  fun j hj => (Nat.lt_or_eq_of_le (Nat.le_of_lt_succ hj)).elim (h j) (fun e => e ▸ hi)

theorem yinrange_at (s : Sym) (b : Bool) (w : World) (h : decide (Sy.ranges s) = b) : Calls Tryz.prog 16 #[.agg #[.int .i64 s.kind, .int .i64 s.cls, .int .i64 s.w, .int .i64 s.h, .int .i64 s.l, .int .i64 s.i0, .int .i64 s.i1, .int .i64 s.i2, .int .i64 s.i3]] w fun e w' => e = .returned (.bool b) ∧ Below w.heap.size w w' := by
  subst h; exact yinrange_any s w

set_option maxRecDepth 4000 in
set_option maxHeartbeats 16000000 in
theorem ycheck_any (A : Option Addr) (c n : Nat) (ss : List Sym) (w : World) (hn : ss.length = n) (hx : n ≤ 1000000000000) (hA : RSy w A ss) :
    Calls Tryz.prog 9 #[.slice A n c] w fun e w' => e = .returned (.int .i64 (Sy.check ss)) ∧ Below w.heap.size w w' := by
  by_cases h72 : (n : Int) ≤ 72
  rotate_left
  · have HB := Lib.hid (Sy.check_limit (ss := ss) (by omega))
    have h73 : (72 : Int) < n := by omega
    go_enter Tryz.func9, Tryz.ntmps9
    go_wp2_with fail
    go_ret
    exact ⟨by rw [HB.out]; rfl, Below.refl _ _⟩
  go_enter Tryz.func9, Tryz.ntmps9
  go_wp2_with fail
  go_loopw [15] (fun iv wr => ∃ i : Nat, iv = .int .i64 i ∧ i ≤ n ∧ Hid (∀ j, j < i → Sy.kindOk (sy ss j)) ∧ Below w.heap.size w wr) (fun iv _ => n - (intOf iv).toNat)
  case atStart => exact ⟨0, rfl, by omega, fun j hj => absurd hj (by omega), Below.refl _ _⟩
  case round =>
    obtain ⟨i, rfl, hi, hall, hbw⟩ := hrel
    have hzr := hbw.size
    by_cases hlt : i < n
    · obtain ⟨b1, o1, rfl, hbb1, hc1⟩ := hA i (by omega)
      have hs := (hc1 i (by omega)).below hbw hbb1
      obtain ⟨d0, d1, d2, d3, d4, d5, d6, d7, d8⟩ := hs
      clear hc1 hA
      by_cases hk1 : 1 ≤ (sy ss i).kind
      rotate_left
      · have HB := Lib.hid (Sy.check_kind (ss := ss) (by omega) (show i < ss.length by omega) (by unfold Sy.kindOk; omega))
        go_wp2_with fail
        go_ret
        exact ⟨by rw [HB.out]; rfl, hbw.alloc hzr _⟩
      by_cases hk2 : (sy ss i).kind ≤ 8
      rotate_left
      · have HB := Lib.hid (Sy.check_kind (ss := ss) (by omega) (show i < ss.length by omega) (by unfold Sy.kindOk; omega))
        go_wp2_with fail
        go_ret
        exact ⟨by rw [HB.out]; rfl, hbw.alloc hzr _⟩
      have HN := Lib.hid (show Sy.kindOk (sy ss i) from ⟨hk1, hk2⟩)
      go_wp2_with fail
      go_roundw
      case rel => exact ⟨i + 1, by go_num, by omega, all_snoc hall.out HN.out, hbw.alloc hzr _⟩
      case measure => simp [intOf]; omega
    · obtain rfl : i = n := by omega
      have HK : Hid (∀ j, j < ss.length → Sy.kindOk (sy ss j)) := Lib.hid (fun j hj => hall.out j (by omega))
      clear hall hi hlt
      go_wp2_with fail
      go_loopw [30] (fun iv wr => ∃ i' : Nat, iv = .int .i64 i' ∧ i' ≤ i ∧ Hid (∀ j, j < i' → Sy.ranges (sy ss j)) ∧ Below w.heap.size w wr) (fun iv _ => i - (intOf iv).toNat)
      case atStart => exact ⟨0, rfl, by omega, fun j hj => absurd hj (by omega), hbw⟩
      case round =>
        clear hbw hzr
        rename_i wr0 wr
        obtain ⟨k, rfl, hi, hall, hbw⟩ := hrel
        have hzr := hbw.size
        by_cases hlt : k < i
        · obtain ⟨b1, o1, rfl, hbb1, hc1⟩ := hA k (by omega)
          have hs := (hc1 k (by omega)).below hbw hbb1
          obtain ⟨d0, d1, d2, d3, d4, d5, d6, d7, d8⟩ := hs
          clear hc1 hA
          by_cases hr : Sy.ranges (sy ss k)
          rotate_left
          · have HB := Lib.hid (Sy.check_range (ss := ss) (by omega) HK.out (show k < ss.length by omega) hr)
            go_wp2_with fail
            refine (yinrange_at (sy ss k) false _ (decide_eq_false hr)).mono ?_
            first | rintro e w1 rfl hb1 | rintro e w1 ⟨rfl, hb1⟩
            go_wp2_with fail
            go_ret
            exact ⟨by rw [HB.out]; rfl, (hbw.alloc hzr _).trans (hb1.mono (by simp; omega))⟩
          have HN := Lib.hid hr
          go_wp2_with fail
          refine (yinrange_at (sy ss k) true _ (decide_eq_true hr)).mono ?_
          first | rintro e w1 rfl hb1 | rintro e w1 ⟨rfl, hb1⟩
          go_wp2_with fail
          go_roundw
          case rel => exact ⟨k + 1, by go_num, by omega, all_snoc hall.out HN.out, (hbw.alloc hzr _).trans (hb1.mono (by simp; omega))⟩
          case measure => simp [intOf]; omega
        · obtain rfl : k = i := by omega
          have HR : Hid (∀ j, j < ss.length → Sy.ranges (sy ss j)) := Lib.hid (fun j hj => hall.out j (by omega))
          clear hall hi hlt
          go_wp2_with fail
          go_loopw [7] (fun iv wr => ∃ i' : Nat, iv = .int .i64 (i' + 1 : Nat) ∧ (i' = 0 ∨ i' + 1 ≤ k) ∧ Hid (∀ j, j < i' → Sy.lt (sy ss j) (sy ss (j + 1))) ∧ Below w.heap.size w wr) (fun iv _ => k - (intOf iv).toNat)
          case atStart => exact ⟨0, rfl, Or.inl rfl, fun j hj => absurd hj (by omega), hbw⟩
          case round =>
            clear hbw hzr
            rename_i wr1 wr
            obtain ⟨i, rfl, hi, hall, hbw⟩ := hrel
            have hzr := hbw.size
            have ei : ((i + 1 : Nat) : Int) = (i : Int) + 1 := by omega
            rw [ei]
            clear ei
            by_cases hlt : i + 1 < k
            · obtain ⟨b1, o1, rfl, hbb1, hc1⟩ := hA i (by omega)
              have hs := (hc1 i (by omega)).below hbw hbb1
              have ht := (hc1 (i + 1) (by omega)).below hbw hbb1
              obtain ⟨d0, d1, d2, d3, d4, d5, d6, d7, d8⟩ := hs
              obtain ⟨e0, e1, e2, e3, e4, e5, e6, e7, e8⟩ := ht
              clear hc1 hA
              have x1 : (0 : Int) ≤ i := by omega
              have x2 : (i : Int) < k := by omega
              have x3 : (i : Int) + 1 < k := by omega
              have x4 : IntKind.i64.wrap ((i : Int) + 1 - 1) = i := by rw [show (i : Int) + 1 - 1 = i by omega]; exact IntWalk.i64_in _ (by omega)
              have x6 : IntKind.i64.wrap (i : Int) = i := IntWalk.i64_in _ (by omega)
              have y2 : i < k := by omega
              have y3 : (i : Int) ≤ k := by omega
              have y4 : (0 : Int) ≤ (i : Int) + 1 := by omega
              have x5 : ((i : Int) + 1).toNat = i + 1 := by omega
              go_upto_region 18 with fail
              go_cut [8, 9] (fun a b wx => ∃ p q : Nat, a = .pointer (some ⟨p, 0, none⟩) ∧ b = .pointer (some ⟨q, 0, none⟩) ∧ Hid (wx.cell? ⟨p, 0, none⟩ = some (.int .i64 (sy ss i).kind) ∧ wx.cell? ⟨p, 1, none⟩ = some (.int .i64 (sy ss i).cls) ∧ wx.cell? ⟨q, 0, none⟩ = some (.int .i64 (sy ss (i + 1)).kind) ∧ wx.cell? ⟨q, 1, none⟩ = some (.int .i64 (sy ss (i + 1)).cls)) ∧ Below w.heap.size w wx)
              case first =>
                go_region_held3 (fun w' => w'.cell? ⟨b1, o1 + i * 9, none⟩ = some (.int .i64 (sy ss i).kind) ∧ w'.cell? ⟨b1, o1 + i * 9 + 1, none⟩ = some (.int .i64 (sy ss i).cls) ∧ w'.cell? ⟨b1, o1 + i * 9 + 2, none⟩ = some (.int .i64 (sy ss i).w) ∧ w'.cell? ⟨b1, o1 + i * 9 + 3, none⟩ = some (.int .i64 (sy ss i).h) ∧ w'.cell? ⟨b1, o1 + i * 9 + 4, none⟩ = some (.int .i64 (sy ss i).l) ∧ w'.cell? ⟨b1, o1 + i * 9 + 5, none⟩ = some (.int .i64 (sy ss i).i0) ∧ w'.cell? ⟨b1, o1 + i * 9 + 6, none⟩ = some (.int .i64 (sy ss i).i1) ∧ w'.cell? ⟨b1, o1 + i * 9 + 7, none⟩ = some (.int .i64 (sy ss i).i2) ∧ w'.cell? ⟨b1, o1 + i * 9 + 8, none⟩ = some (.int .i64 (sy ss i).i3) ∧ w'.cell? ⟨b1, o1 + (i + 1) * 9, none⟩ = some (.int .i64 (sy ss (i + 1)).kind) ∧ w'.cell? ⟨b1, o1 + (i + 1) * 9 + 1, none⟩ = some (.int .i64 (sy ss (i + 1)).cls) ∧ w'.cell? ⟨b1, o1 + (i + 1) * 9 + 2, none⟩ = some (.int .i64 (sy ss (i + 1)).w) ∧ w'.cell? ⟨b1, o1 + (i + 1) * 9 + 3, none⟩ = some (.int .i64 (sy ss (i + 1)).h) ∧ w'.cell? ⟨b1, o1 + (i + 1) * 9 + 4, none⟩ = some (.int .i64 (sy ss (i + 1)).l) ∧ w'.cell? ⟨b1, o1 + (i + 1) * 9 + 5, none⟩ = some (.int .i64 (sy ss (i + 1)).i0) ∧ w'.cell? ⟨b1, o1 + (i + 1) * 9 + 6, none⟩ = some (.int .i64 (sy ss (i + 1)).i1) ∧ w'.cell? ⟨b1, o1 + (i + 1) * 9 + 7, none⟩ = some (.int .i64 (sy ss (i + 1)).i2) ∧ w'.cell? ⟨b1, o1 + (i + 1) * 9 + 8, none⟩ = some (.int .i64 (sy ss (i + 1)).i3)) (go_keep) (fail)
                all_goals
                  go_wp2_with fail
                  go_meet
                  case rel =>
                    refine ⟨_, _, rfl, rfl, Lib.hid ⟨?_, ?_, ?_, ?_⟩, ?_⟩
                    · simp
                    · simp
                    · simp
                    · simp
                    · go_grown
              case rest =>
                obtain ⟨p, q, rfl, rfl, HC, hbc⟩ := hcut
                obtain ⟨c0, c1, c2, c3⟩ := HC.out
                clear HC d0 d1 d2 d3 d4 d5 d6 d7 d8 e0 e1 e2 e3 e4 e5 e6 e7 e8 x4 x6 hbw
                by_cases g1 : (sy ss (i + 1)).kind < (sy ss i).kind
                · have HB := Lib.hid (Sy.check_order (ss := ss) (by omega) HK.out HR.out (show i + 1 < ss.length by omega) (by unfold Sy.lt; omega))
                  go_wp2_with fail
                  go_ret
                  exact ⟨by rw [HB.out]; rfl, hbc⟩
                have g1b : (sy ss i).kind ≤ (sy ss (i + 1)).kind := by omega
                by_cases g2 : (sy ss (i + 1)).kind = (sy ss i).kind
                · have g2b : ((sy ss (i + 1)).kind == (sy ss i).kind) = true := by simp [g2]
                  by_cases g3 : (sy ss (i + 1)).cls ≤ (sy ss i).cls
                  · have HB := Lib.hid (Sy.check_order (ss := ss) (by omega) HK.out HR.out (show i + 1 < ss.length by omega) (by unfold Sy.lt; omega))
                    clear g2
                    go_wp2_with fail
                    go_ret
                    exact ⟨by rw [HB.out]; rfl, hbc⟩
                  have HN := Lib.hid (show Sy.lt (sy ss i) (sy ss (i + 1)) by unfold Sy.lt; omega)
                  clear g2
                  go_wp2_with fail
                  go_roundw
                  case rel => exact ⟨i + 1, by go_num, by omega, all_snoc hall.out HN.out, hbc⟩
                  case measure => simp [intOf]; omega
                · have g2b : ((sy ss (i + 1)).kind == (sy ss i).kind) = false := by simp [g2]
                  have HN := Lib.hid (show Sy.lt (sy ss i) (sy ss (i + 1)) by unfold Sy.lt; omega)
                  clear g2
                  go_wp2_with fail
                  go_roundw
                  case rel => exact ⟨i + 1, by go_num, by omega, all_snoc hall.out HN.out, hbc⟩
                  case measure => simp [intOf]; omega
            · have HB := Lib.hid (Sy.check_ok (ss := ss) (by omega) HK.out HR.out (fun j hj => hall.out j (by omega)))
              go_wp2_with fail
              go_ret
              exact ⟨by rw [HB.out]; rfl, hbw⟩
end Go.Proofs.YtdbhijkfhcgojaaGreatDoor
