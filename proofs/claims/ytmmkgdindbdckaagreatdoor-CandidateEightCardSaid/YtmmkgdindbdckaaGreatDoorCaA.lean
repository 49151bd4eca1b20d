/-
  Candidates: the eight places around a point.
-/
import Derived.Test.YtmmkgdindbdckaaGreatDoorBox
import Derived.Deep.DeepCutAuto
import Derived.Deep.RegionHeld3
set_option linter.unusedVariables false
set_option linter.unusedSimpArgs false
namespace Go.Proofs.YtmmkgdindbdckaaGreatDoor
open Go.RowKit

def Ca.fit (x y w h : Int) : Prop := (-1048576 ≤ x ∧ x ≤ 1048576) ∧ (-1048576 ≤ y ∧ y ≤ 1048576) ∧ (1 ≤ w ∧ w ≤ 1048576) ∧ (1 ≤ h ∧ h ≤ 1048576)
instance (x y w h : Int) : Decidable (Ca.fit x y w h) := by unfold Ca.fit; infer_instance
def Ca.corners (x y w h : Int) : List (Int × Int) := [(x, y), (x - w, y), (x, y - h), (x - w, y - h), (x, y - h / 2), (x - w, y - h / 2), (x - w / 2, y), (x - w / 2, y - h)]
def Ca.around (x y w h : Int) : List (Int × Int × Int × Int) := if Ca.fit x y w h then (Ca.corners x y w h).map fun c => (c.1, c.2, c.1 + w, c.2 + h) else []
def Ca.corner (x y w h : Int) (i : Nat) : Int × Int := (Ca.corners x y w h).getD i (0, 0)
theorem Ca.corner_bd {x y w h : Int} (hf : Ca.fit x y w h) (i : Nat) : (-3145728 ≤ (Ca.corner x y w h i).1 ∧ (Ca.corner x y w h i).1 ≤ 3145728) ∧ -3145728 ≤ (Ca.corner x y w h i).2 ∧ (Ca.corner x y w h i).2 ≤ 3145728 := by
  unfold Ca.fit at hf
  unfold Ca.corner
  by_cases hi : i < 8
  · obtain rfl | rfl | rfl | rfl | rfl | rfl | rfl | rfl : i = 0 ∨ i = 1 ∨ i = 2 ∨ i = 3 ∨ i = 4 ∨ i = 5 ∨ i = 6 ∨ i = 7 := by omega
    all_goals (simp [Ca.corners]; omega)
  · rw [List.getD_eq_getElem?_getD, List.getElem?_eq_none (by simp [Ca.corners]; omega)]
    simp
theorem cvalid_at (n : Int) (b : Bool) (w : World) (h : decide (-1048576 ≤ n ∧ n ≤ 1048576) = b) : Calls Tryz.prog 9 #[.int .i64 n] w fun e w' => e = .returned (.bool b) ∧ w = w' := by
  subst h
  go_enter Tryz.func9, Tryz.ntmps9
  by_cases h : -1048576 ≤ n
  · go_wp2_with fail
    go_ret
    exact ⟨ret_bool (by simp [h]), rfl⟩
  · go_wp2_with fail
    go_ret
    exact ⟨ret_bool (by simp [h]; omega), rfl⟩
def AroundPost (bs : List (Int × Int × Int × Int)) (w : World) (e : Ending) (w' : World) : Prop := ∃ v, e = .returned v ∧ OBx w' w.heap.size v bs ∧ Below w.heap.size w w'
theorem cidx (x y w h : Int) (i : Nat) (hi : i < 8) (W : World) : (Instr.index 34 (.agg #[.int .i64 x, .int .i64 y, .int .i64 (x - w), .int .i64 y, .int .i64 x, .int .i64 (y - h), .int .i64 (x - w), .int .i64 (y - h), .int .i64 x, .int .i64 (y - h / 2), .int .i64 (x - w), .int .i64 (y - h / 2), .int .i64 (x - w / 2), .int .i64 y, .int .i64 (x - w / 2), .int .i64 (y - h)]) (.int .i64 (i : Int))).run Tryz.prog W = .ok (.agg #[.int .i64 (Ca.corner x y w h i).1, .int .i64 (Ca.corner x y w h i).2]) W := by
  obtain rfl | rfl | rfl | rfl | rfl | rfl | rfl | rfl : i = 0 ∨ i = 1 ∨ i = 2 ∨ i = 3 ∨ i = 4 ∨ i = 5 ∨ i = 6 ∨ i = 7 := by omega
  all_goals kernel_rfl

set_option maxRecDepth 100000 in
set_option maxHeartbeats 8000000 in
theorem caround_any (x y w h : Int) (W : World) : Calls Tryz.prog 4 #[.agg #[.int .i64 x, .int .i64 y], .int .i64 w, .int .i64 h] W (AroundPost (Ca.around x y w h) W) := by
  have b1 : Below W.heap.size W (W.alloc (.cells #[.int .i64 x, .int .i64 y] 23)) := (Below.refl _ _).alloc (Nat.le_refl _) _
  by_cases hx : -1048576 ≤ x ∧ x ≤ 1048576
  rotate_left
  · have HA := Lib.hid (show Ca.around x y w h = [] by unfold Ca.around; rw [if_neg (fun hf => hx hf.1)])
    go_enter Tryz.func4, Tryz.ntmps4
    go_wp2_with fail
    refine (cvalid_at _ false _ (decide_eq_false hx)).mono ?_
    first | rintro e w1 rfl rfl | rintro e w1 ⟨rfl, rfl⟩
    go_wp2_with fail
    go_ret
    exact ⟨_, rfl, by rw [HA.out]; exact OBx.nil _ _, b1⟩
  by_cases hy : -1048576 ≤ y ∧ y ≤ 1048576
  rotate_left
  · have HA := Lib.hid (show Ca.around x y w h = [] by unfold Ca.around; rw [if_neg (fun hf => hy hf.2.1)])
    go_enter Tryz.func4, Tryz.ntmps4
    go_wp2_with fail
    refine (cvalid_at _ true _ (decide_eq_true hx)).mono ?_
    first | rintro e w1 rfl rfl | rintro e w1 ⟨rfl, rfl⟩
    go_wp2_with fail
    refine (cvalid_at _ false _ (decide_eq_false hy)).mono ?_
    first | rintro e w1 rfl rfl | rintro e w1 ⟨rfl, rfl⟩
    go_wp2_with fail
    go_ret
    exact ⟨_, rfl, by rw [HA.out]; exact OBx.nil _ _, b1⟩
  by_cases gw1 : 1 ≤ w
  rotate_left
  · have HA := Lib.hid (show Ca.around x y w h = [] by unfold Ca.around; rw [if_neg (fun hf => gw1 hf.2.2.1.1)])
    go_enter Tryz.func4, Tryz.ntmps4
    go_wp2_with fail
    refine (cvalid_at _ true _ (decide_eq_true hx)).mono ?_
    first | rintro e w1 rfl rfl | rintro e w1 ⟨rfl, rfl⟩
    go_wp2_with fail
    refine (cvalid_at _ true _ (decide_eq_true hy)).mono ?_
    first | rintro e w1 rfl rfl | rintro e w1 ⟨rfl, rfl⟩
    go_wp2_with fail
    go_ret
    exact ⟨_, rfl, by rw [HA.out]; exact OBx.nil _ _, b1⟩
  by_cases gw2 : w ≤ 1048576
  rotate_left
  · have HA := Lib.hid (show Ca.around x y w h = [] by unfold Ca.around; rw [if_neg (fun hf => gw2 hf.2.2.1.2)])
    go_enter Tryz.func4, Tryz.ntmps4
    go_wp2_with fail
    refine (cvalid_at _ true _ (decide_eq_true hx)).mono ?_
    first | rintro e w1 rfl rfl | rintro e w1 ⟨rfl, rfl⟩
    go_wp2_with fail
    refine (cvalid_at _ true _ (decide_eq_true hy)).mono ?_
    first | rintro e w1 rfl rfl | rintro e w1 ⟨rfl, rfl⟩
    go_wp2_with fail
    go_ret
    exact ⟨_, rfl, by rw [HA.out]; exact OBx.nil _ _, b1⟩
  by_cases gh1 : 1 ≤ h
  rotate_left
  · have HA := Lib.hid (show Ca.around x y w h = [] by unfold Ca.around; rw [if_neg (fun hf => gh1 hf.2.2.2.1)])
    go_enter Tryz.func4, Tryz.ntmps4
    go_wp2_with fail
    refine (cvalid_at _ true _ (decide_eq_true hx)).mono ?_
    first | rintro e w1 rfl rfl | rintro e w1 ⟨rfl, rfl⟩
    go_wp2_with fail
    refine (cvalid_at _ true _ (decide_eq_true hy)).mono ?_
    first | rintro e w1 rfl rfl | rintro e w1 ⟨rfl, rfl⟩
    go_wp2_with fail
    go_ret
    exact ⟨_, rfl, by rw [HA.out]; exact OBx.nil _ _, b1⟩
  by_cases gh2 : h ≤ 1048576
  rotate_left
  · have HA := Lib.hid (show Ca.around x y w h = [] by unfold Ca.around; rw [if_neg (fun hf => gh2 hf.2.2.2.2)])
    go_enter Tryz.func4, Tryz.ntmps4
    go_wp2_with fail
    refine (cvalid_at _ true _ (decide_eq_true hx)).mono ?_
    first | rintro e w1 rfl rfl | rintro e w1 ⟨rfl, rfl⟩
    go_wp2_with fail
    refine (cvalid_at _ true _ (decide_eq_true hy)).mono ?_
    first | rintro e w1 rfl rfl | rintro e w1 ⟨rfl, rfl⟩
    go_wp2_with fail
    go_ret
    exact ⟨_, rfl, by rw [HA.out]; exact OBx.nil _ _, b1⟩
  have hfit : Ca.fit x y w h := ⟨hx, hy, ⟨gw1, gw2⟩, gh1, gh2⟩
  have HA := Lib.hid (show Ca.around x y w h = (Ca.corners x y w h).map (fun c => (c.1, c.2, c.1 + w, c.2 + h)) by unfold Ca.around; rw [if_pos hfit])
  have HF := Lib.hid hfit
  clear hfit
  go_enter Tryz.func4, Tryz.ntmps4
  go_wp2_with fail
  refine (cvalid_at _ true _ (decide_eq_true hx)).mono ?_
  first | rintro e w1 rfl rfl | rintro e w1 ⟨rfl, rfl⟩
  go_wp2_with fail
  refine (cvalid_at _ true _ (decide_eq_true hy)).mono ?_
  first | rintro e w1 rfl rfl | rintro e w1 ⟨rfl, rfl⟩
  obtain ⟨x1, x2⟩ := hx
  obtain ⟨y1, y2⟩ := hy
  go_upto_region 5 with fail
  obtain ⟨W1, hW⟩ : ∃ X, (W.alloc (.cells #[.int .i64 x, .int .i64 y] 23)).alloc (.cells #[.int .i64 x, .int .i64 y, .int .i64 (x - w), .int .i64 y, .int .i64 x, .int .i64 (y - h), .int .i64 (x - w), .int .i64 (y - h), .int .i64 x, .int .i64 (y - h / 2), .int .i64 (x - w), .int .i64 (y - h / 2), .int .i64 (x - w / 2), .int .i64 y, .int .i64 (x - w / 2), .int .i64 (y - h)] 34) = X := ⟨_, rfl⟩
  have hb1 : Below W.heap.size W W1 := by rw [← hW]; exact b1.alloc (by simp) _
  have ka : Bk W1 (W.heap.size + 1) 34 #[.int .i64 x, .int .i64 y, .int .i64 (x - w), .int .i64 y, .int .i64 x, .int .i64 (y - h), .int .i64 (x - w), .int .i64 (y - h), .int .i64 x, .int .i64 (y - h / 2), .int .i64 (x - w), .int .i64 (y - h / 2), .int .i64 (x - w / 2), .int .i64 y, .int .i64 (x - w / 2), .int .i64 (y - h)] := by
    rw [← hW]
    have := Bk.new (W.alloc (.cells #[.int .i64 x, .int .i64 y] 23)) #[.int .i64 x, .int .i64 y, .int .i64 (x - w), .int .i64 y, .int .i64 x, .int .i64 (y - h), .int .i64 (x - w), .int .i64 (y - h), .int .i64 x, .int .i64 (y - h / 2), .int .i64 (x - w), .int .i64 (y - h / 2), .int .i64 (x - w / 2), .int .i64 y, .int .i64 (x - w / 2), .int .i64 (y - h)] 34
    rw [show (W.alloc (.cells #[.int .i64 x, .int .i64 y] 23)).heap.size = W.heap.size + 1 by simp] at this
    exact this
  rw [hW]
  clear hW b1
  have k0 := ka.cell 0
  have k1 := ka.cell 1
  have k2 := ka.cell 2
  have k3 := ka.cell 3
  have k4 := ka.cell 4
  have k5 := ka.cell 5
  have k6 := ka.cell 6
  have k7 := ka.cell 7
  have k8 := ka.cell 8
  have k9 := ka.cell 9
  have k10 := ka.cell 10
  have k11 := ka.cell 11
  have k12 := ka.cell 12
  have k13 := ka.cell 13
  have k14 := ka.cell 14
  have k15 := ka.cell 15
  simp only [List.getElem?_toArray, List.getElem?_cons_zero, List.getElem?_cons_succ] at k0 k1 k2 k3 k4 k5 k6 k7 k8 k9 k10 k11 k12 k13 k14 k15
  go_wp2_with fail
  clear k0 k1 k2 k3 k4 k5 k6 k7 k8 k9 k10 k11 k12 k13 k14 k15 ka
  go_loopw [6, 104] (fun v iv wr => ∃ i : Nat, iv = .int .i64 i ∧ i ≤ 8 ∧ OBx wr W1.heap.size v (((Ca.corners x y w h).take i).map fun c => (c.1, c.2, c.1 + w, c.2 + h)) ∧ Below W1.heap.size W1 wr) (fun _ iv _ => 8 - (intOf iv).toNat)
  case atStart => exact ⟨0, rfl, by omega, OBx.nil _ _, Below.refl _ _⟩
  case round =>
    obtain ⟨i, rfl, hi, hob, hbw⟩ := hrel
    have hzr := hbw.size
    by_cases hlt : i < 8
    · have hix := cidx x y w h i hlt
      have hbd := Ca.corner_bd HF.out i
      have HT : Hid (((Ca.corners x y w h).take (i + 1)).map (fun c => (c.1, c.2, c.1 + w, c.2 + h)) = ((Ca.corners x y w h).take i).map (fun c => (c.1, c.2, c.1 + w, c.2 + h)) ++ [((Ca.corner x y w h i).1, (Ca.corner x y w h i).2, (Ca.corner x y w h i).1 + w, (Ca.corner x y w h i).2 + h)]) := Lib.hid (by
        rw [List.take_succ_eq_append_getElem (by simpa [Ca.corners] using hlt), List.map_append]
        simp [Ca.corner, show i < (Ca.corners x y w h).length by simpa [Ca.corners] using hlt])
      obtain ⟨⟨e1, e2⟩, e3, e4⟩ := hbd
      have HL : Hid ((((Ca.corners x y w h).take i).map (fun c => (c.1, c.2, c.1 + w, c.2 + h))).length ≤ 1000000000000) := Lib.hid (by simp; omega)
      generalize Ca.corner x y w h i = cc at *
      obtain ⟨cx, cy⟩ := cc
      dsimp only at hix e1 e2 e3 e4 HT
      have HOB : Hid (OBx (wr.alloc (.cells #[.int .i64 cx, .int .i64 cy] 23)) W1.heap.size u6 (((Ca.corners x y w h).take i).map fun c => (c.1, c.2, c.1 + w, c.2 + h))) := Lib.hid (World.ownsRow.alloc hob _)
      have hba : Below W1.heap.size W1 (wr.alloc (.cells #[.int .i64 cx, .int .i64 cy] 23)) := hbw.alloc hzr _
      have hzs : W1.heap.size ≤ (wr.alloc (.cells #[.int .i64 cx, .int .i64 cy] 23)).heap.size := hba.size
      clear hob
      go_wp2_with (at_builtin; go_loud (refine append_box rfl _ _ rfl (wr.alloc (.cells #[.int .i64 cx, .int .i64 cy] 23)) W1.heap.size u6 _ cx cy (cx + w) (cy + h) rfl HOB.out (wr.heap.size + 1) (by simp) rfl HL.out hzs ?_; intro v' w2 hown2 hb2 hg2))
      have HO2 := Lib.hid hown2
      clear hown2 hg2
      go_roundw
      case rel => exact ⟨i + 1, by go_num, by omega, by rw [HT.out]; exact HO2.out, hba.trans hb2⟩
      case measure => simp [intOf]; omega
    · obtain rfl : i = 8 := by omega
      go_wp2_with fail
      go_ret
      refine ⟨_, rfl, ?_, hb1.trans (hbw.mono hb1.size)⟩
      rw [HA.out]
      exact OBx.mono hob hb1.size
end Go.Proofs.YtmmkgdindbdckaaGreatDoor
