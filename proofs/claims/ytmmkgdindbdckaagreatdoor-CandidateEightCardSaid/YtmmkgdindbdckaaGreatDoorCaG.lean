/-
  Candidates: the law CandidateEight.
-/
import Derived.Test.YtmmkgdindbdckaaGreatDoorCaF
set_option linter.unusedVariables false
set_option linter.unusedSimpArgs false
namespace Go.Proofs.YtmmkgdindbdckaaGreatDoor
open Go.RowKit

theorem r14valid_at (x y : Int) (r : Bool) (w : World) (h : decide ((-1048576 ≤ x ∧ x ≤ 1048576) ∧ (-1048576 ≤ y ∧ y ≤ 1048576)) = r) : Calls Tryz.prog 5 #[.agg #[.int .i64 x, .int .i64 y]] w fun e w' => e = .returned (.bool r) ∧ Below w.heap.size w w' := by
  subst h
  go_enter Tryz.func5, Tryz.ntmps5
  by_cases h1 : -1048576 ≤ x
  · by_cases h2 : x ≤ 1048576
    · by_cases h3 : -1048576 ≤ y
      · go_wp2_with fail
        go_ret
        refine ⟨ret_bool (by simp [h1, h2, h3]), ?_⟩
        go_grown
      · go_wp2_with fail
        go_ret
        refine ⟨ret_bool (by simp [h1, h2, h3]; try omega), ?_⟩
        go_grown
    · go_wp2_with fail
      go_ret
      refine ⟨ret_bool (by simp [h1, h2]; try omega), ?_⟩
      go_grown
  · go_wp2_with fail
    go_ret
    refine ⟨ret_bool (by simp [h1]; try omega), ?_⟩
    go_grown
theorem in_true (b0 b1 b2 b3 x y : Int) (w : World) (h1 : b0 ≤ x) (h2 : x ≤ b2) (h3 : b1 ≤ y) (h4 : y ≤ b3) : Calls Tryz.prog 7 #[.agg #[.int .i64 b0, .int .i64 b1, .int .i64 b2, .int .i64 b3], .agg #[.int .i64 x, .int .i64 y]] w fun e w' => e = .returned (.bool true) ∧ Below w.heap.size w w' := by
  go_enter Tryz.func7, Tryz.ntmps7
  go_wp2_with fail
  go_ret
  refine ⟨ret_bool (by simp [h4]), ?_⟩
  go_grown
theorem over_false (a0 a1 a2 a3 b0 b1 b2 b3 : Int) (w : World) (h : ¬ (max a0 b0 < min a2 b2 ∧ max a1 b1 < min a3 b3)) : Calls Tryz.prog 8 #[.agg #[.int .i64 a0, .int .i64 a1, .int .i64 a2, .int .i64 a3], .agg #[.int .i64 b0, .int .i64 b1, .int .i64 b2, .int .i64 b3]] w fun e w' => e = .returned (.bool false) ∧ Below w.heap.size w w' := by
  by_cases h1 : max a0 b0 < min a2 b2
  · have h2 : ¬ max a1 b1 < min a3 b3 := fun h2 => h ⟨h1, h2⟩
    go_enter Tryz.func8, Tryz.ntmps8
    go_wp2_with fail
    go_ret
    refine ⟨rfl, ?_⟩
    go_grown
  · go_enter Tryz.func8, Tryz.ntmps8
    go_wp2_with fail
    go_ret
    refine ⟨rfl, ?_⟩
    go_grown

def Ca.Fact (x y w h : Int) (b : Int × Int × Int × Int) : Prop := b.1 ≤ x ∧ x ≤ b.2.2.1 ∧ b.2.1 ≤ y ∧ y ≤ b.2.2.2 ∧ b.2.2.1 - b.1 = w ∧ b.2.2.2 - b.2.1 = h ∧ (-4194304 ≤ b.1 ∧ b.1 ≤ 4194304) ∧ (-4194304 ≤ b.2.1 ∧ b.2.1 ≤ 4194304) ∧ (-4194304 ≤ b.2.2.1 ∧ b.2.2.1 ≤ 4194304) ∧ (-4194304 ≤ b.2.2.2 ∧ b.2.2.2 ≤ 4194304)
theorem Ca.around_fit {x y w h : Int} (hf : Ca.fit x y w h) : Ca.around x y w h = (Ca.corners x y w h).map (fun c => (c.1, c.2, c.1 + w, c.2 + h)) := by unfold Ca.around; rw [if_pos hf]
theorem Ca.fact {x y w h : Int} (hf : Ca.fit x y w h) (i : Nat) (hi : i < 8) : Ca.Fact x y w h (bxAt (Ca.around x y w h) i) := by
  rw [Ca.around_fit hf]
  unfold Ca.fit at hf
  unfold Ca.Fact
  obtain rfl | rfl | rfl | rfl | rfl | rfl | rfl | rfl : i = 0 ∨ i = 1 ∨ i = 2 ∨ i = 3 ∨ i = 4 ∨ i = 5 ∨ i = 6 ∨ i = 7 := by omega
  all_goals (simp [Ca.corners, bxAt]; omega)
theorem Ca.apart {x y w h : Int} (hf : Ca.fit x y w h) (i k : Nat) (hk : k < i) (hi : i < 4) : ¬ (max (bxAt (Ca.around x y w h) i).1 (bxAt (Ca.around x y w h) k).1 < min (bxAt (Ca.around x y w h) i).2.2.1 (bxAt (Ca.around x y w h) k).2.2.1 ∧ max (bxAt (Ca.around x y w h) i).2.1 (bxAt (Ca.around x y w h) k).2.1 < min (bxAt (Ca.around x y w h) i).2.2.2 (bxAt (Ca.around x y w h) k).2.2.2) := by
  rw [Ca.around_fit hf]
  unfold Ca.fit at hf
  obtain ⟨rfl, rfl⟩ | ⟨rfl, rfl⟩ | ⟨rfl, rfl⟩ | ⟨rfl, rfl⟩ | ⟨rfl, rfl⟩ | ⟨rfl, rfl⟩ : (i = 1 ∧ k = 0) ∨ (i = 2 ∧ k = 0) ∨ (i = 2 ∧ k = 1) ∨ (i = 3 ∧ k = 0) ∨ (i = 3 ∧ k = 1) ∨ (i = 3 ∧ k = 2) := by omega
  all_goals (simp only [Ca.corners, bxAt, List.map, List.getD_cons_zero, List.getD_cons_succ]; omega)

set_option maxRecDepth 4000 in
set_option maxHeartbeats 16000000 in
theorem law_eight (x y w h : Int) (W : World) (ht : Gl.Tab W) (hm : MaxOk W) :
    Calls Tryz.prog 3 #[.agg #[.int .i64 x, .int .i64 y], .int .i64 w, .int .i64 h] W fun e W' => e = .returned (.bool true) ∧ Below W.heap.size W W' := by
  have HAW := Lib.hid (fun X (hb : Below W.heap.size W X) => lcawake_any X (ht.below hb (Nat.le_refl _)) (hm.below hb (Nat.le_refl _)))
  clear ht hm
  by_cases hf : Ca.fit x y w h
  rotate_left
  · have HA : Hid (Ca.around x y w h = []) := Lib.hid (by unfold Ca.around; rw [if_neg hf])
    go_enter Tryz.func3, Tryz.ntmps3
    go_wp2_with fail
    obtain ⟨W1, hW⟩ : ∃ X, W.alloc (.cells #[.int .i64 x, .int .i64 y] 23) = X := ⟨_, rfl⟩
    have b1 : Below W.heap.size W W1 := by rw [← hW]; exact (Below.refl _ _).alloc (Nat.le_refl _) _
    have kP : Bk W1 W.heap.size 23 #[.int .i64 x, .int .i64 y] := by rw [← hW]; exact Bk.new _ _ _
    rw [hW]
    clear hW
    refine (caround_any x y w h _).mono ?_
    rintro e w2 ⟨v, rfl, hov, hb2⟩
    rw [HA.out] at hov
    obtain ⟨AZ, cZ, rfl, _⟩ := hov.form
    have b2 : Below W.heap.size W w2 := b1.trans (hb2.mono b1.size)
    replace kP := kP.below hb2 kP.lt
    have p0 := kP.cell 0
    have p1 := kP.cell 1
    simp only [List.getElem?_toArray, List.getElem?_cons_zero, List.getElem?_cons_succ] at p0 p1
    clear hov b1 hb2
    by_cases hv : (-1048576 ≤ x ∧ x ≤ 1048576) ∧ (-1048576 ≤ y ∧ y ≤ 1048576)
    rotate_left
    · clear hf
      go_wp2_with fail
      refine (r14valid_at x y false _ (decide_eq_false hv)).mono ?_
      first | rintro e w3 rfl hb3 | rintro e w3 ⟨rfl, hb3⟩
      have b3 : Below W.heap.size W w3 := b2.trans (hb3.mono b2.size)
      go_wp2_with fail
      refine (HAW.out _ b3).mono ?_
      first | rintro e w4 rfl hb4 | rintro e w4 ⟨rfl, hb4⟩
      go_wp2_with fail
      go_ret
      exact ⟨rfl, b3.trans (hb4.mono b3.size)⟩
    go_wp2_with fail
    refine (r14valid_at x y true _ (decide_eq_true hv)).mono ?_
    first | rintro e w3 rfl hb3 | rintro e w3 ⟨rfl, hb3⟩
    have b3 : Below W.heap.size W w3 := b2.trans (hb3.mono b2.size)
    have HF := Lib.hid hf
    clear hf
    by_cases h1 : w < 1
    · go_wp2_with fail
      refine (HAW.out _ b3).mono ?_
      first | rintro e w4 rfl hb4 | rintro e w4 ⟨rfl, hb4⟩
      go_wp2_with fail
      go_ret
      exact ⟨rfl, b3.trans (hb4.mono b3.size)⟩
    by_cases h2 : 1048576 < w
    · go_wp2_with fail
      refine (HAW.out _ b3).mono ?_
      first | rintro e w4 rfl hb4 | rintro e w4 ⟨rfl, hb4⟩
      go_wp2_with fail
      go_ret
      exact ⟨rfl, b3.trans (hb4.mono b3.size)⟩
    by_cases h3 : h < 1
    · go_wp2_with fail
      refine (HAW.out _ b3).mono ?_
      first | rintro e w4 rfl hb4 | rintro e w4 ⟨rfl, hb4⟩
      go_wp2_with fail
      go_ret
      exact ⟨rfl, b3.trans (hb4.mono b3.size)⟩
    have h4 : 1048576 < h := by
      refine Classical.byContradiction fun h4 => HF.out ?_
      unfold Ca.fit
      omega
    go_wp2_with fail
    refine (HAW.out _ b3).mono ?_
    first | rintro e w4 rfl hb4 | rintro e w4 ⟨rfl, hb4⟩
    go_wp2_with fail
    go_ret
    exact ⟨rfl, b3.trans (hb4.mono b3.size)⟩
  have HF := Lib.hid hf
  have hlen : (Ca.around x y w h).length = 8 := by rw [Ca.around_fit hf]; simp [Ca.corners]
  have HLEN := Lib.hid hlen
  obtain ⟨⟨x1, x2⟩, ⟨y1, y2⟩, ⟨w1, w2⟩, h1, h2⟩ := hf
  clear hlen
  go_enter Tryz.func3, Tryz.ntmps3
  go_wp2_with fail
  obtain ⟨W1, hW⟩ : ∃ X, W.alloc (.cells #[.int .i64 x, .int .i64 y] 23) = X := ⟨_, rfl⟩
  have b1 : Below W.heap.size W W1 := by rw [← hW]; exact (Below.refl _ _).alloc (Nat.le_refl _) _
  have kP : Bk W1 W.heap.size 23 #[.int .i64 x, .int .i64 y] := by rw [← hW]; exact Bk.new _ _ _
  rw [hW]
  clear hW
  refine (caround_any x y w h _).mono ?_
  rintro e w3 ⟨v, rfl, hov, hb2⟩
  obtain ⟨AL, cL, rfl, hRB⟩ := hov.form
  rw [HLEN.out]
  have b2 : Below W.heap.size W w3 := b1.trans (hb2.mono b1.size)
  replace kP := kP.below hb2 kP.lt
  obtain ⟨bb, bo, rfl, hbb, hcs⟩ := hRB 0 (by rw [HLEN.out]; omega)
  have HCS : Hid (∀ j, j < 8 → w3.cell? ⟨bb, bo + j * 4, none⟩ = some (.int .i64 (bxAt (Ca.around x y w h) j).1) ∧ w3.cell? ⟨bb, bo + j * 4 + 1, none⟩ = some (.int .i64 (bxAt (Ca.around x y w h) j).2.1) ∧ w3.cell? ⟨bb, bo + j * 4 + 2, none⟩ = some (.int .i64 (bxAt (Ca.around x y w h) j).2.2.1) ∧ w3.cell? ⟨bb, bo + j * 4 + 3, none⟩ = some (.int .i64 (bxAt (Ca.around x y w h) j).2.2.2)) := Lib.hid (fun j hj => hcs j (by rw [HLEN.out]; exact hj))
  have lP := kP.lt
  clear hov b1 hb2 hRB hcs
  go_wp2_with fail
  go_loopw [8] (fun iv wr => ∃ i : Nat, iv = .int .i64 i ∧ i ≤ 8 ∧ Below w3.heap.size w3 wr) (fun iv _ => 8 - (intOf iv).toNat)
  case atStart => exact ⟨0, rfl, by omega, Below.refl _ _⟩
  case round =>
    obtain ⟨i, rfl, hi, hbw⟩ := hrel
    have hzr := hbw.size
    have b0r : Below W.heap.size W wr := b2.trans (hbw.mono b2.size)
    by_cases hlt : i < 8
    rotate_left
    · obtain rfl : i = 8 := by omega
      go_wp2_with fail
      refine (HAW.out _ b0r).mono ?_
      first | rintro e w4 rfl hb4 | rintro e w4 ⟨rfl, hb4⟩
      go_wp2_with fail
      go_ret
      exact ⟨rfl, b0r.trans (hb4.mono b0r.size)⟩
    obtain ⟨c0, c1, c2, c3⟩ := HCS.out i hlt
    have d0 := (hbw.cell (p := ⟨bb, bo + i * 4, none⟩) hbb).trans c0
    have d1 := (hbw.cell (p := ⟨bb, bo + i * 4 + 1, none⟩) hbb).trans c1
    have d2 := (hbw.cell (p := ⟨bb, bo + i * 4 + 2, none⟩) hbb).trans c2
    have d3 := (hbw.cell (p := ⟨bb, bo + i * 4 + 3, none⟩) hbb).trans c3
    have kPr := kP.below hbw lP
    have p0 := kPr.cell 0
    have p1 := kPr.cell 1
    simp only [List.getElem?_toArray, List.getElem?_cons_zero, List.getElem?_cons_succ] at p0 p1
    have hfa := Ca.fact HF.out i hlt
    have HAP := Lib.hid (fun k hk hi4 => Ca.apart HF.out i k hk hi4)
    clear c0 c1 c2 c3
    generalize hbx : bxAt (Ca.around x y w h) i = bx at *
    have HBX := Lib.hid hbx
    clear hbx
    obtain ⟨q0, q1, q2, q3⟩ := bx
    obtain ⟨f1, f2, f3, f4, f5, f6, ⟨f7, f8⟩, ⟨f9, f10⟩, ⟨f11, f12⟩, f13, f14⟩ := hfa
    dsimp only at d0 d1 d2 d3 f1 f2 f3 f4 f5 f6 f7 f8 f9 f10 f11 f12 f13 f14
    have f5b : (q2 - q0 == w) = true := by simp [f5]
    have f6b : (q3 - q1 == h) = true := by simp [f6]
    have f5c : (q2 - q0 != w) = false := by simp [f5]
    have f6c : (q3 - q1 != h) = false := by simp [f6]
    have i1 : (0 : Int) ≤ i := by omega
    have i2 : (i : Int) < 8 := by omega
    have f5d : IntKind.i64.wrap (q2 - q0) = q2 - q0 := IntWalk.i64_in _ (by omega)
    have f6d : IntKind.i64.wrap (q3 - q1) = q3 - q1 := IntWalk.i64_in _ (by omega)
    clear f5 f6
    have HKP : Hid (∀ X, Below wr.heap.size wr X → X.cell? ⟨bb, bo + i * 4, none⟩ = some (.int .i64 q0) ∧ X.cell? ⟨bb, bo + i * 4 + 1, none⟩ = some (.int .i64 q1) ∧ X.cell? ⟨bb, bo + i * 4 + 2, none⟩ = some (.int .i64 q2) ∧ X.cell? ⟨bb, bo + i * 4 + 3, none⟩ = some (.int .i64 q3) ∧ X.cell? ⟨W.heap.size, 0, none⟩ = some (.int .i64 x) ∧ X.cell? ⟨W.heap.size, 1, none⟩ = some (.int .i64 y)) :=
      Lib.hid (fun X hX => ⟨(hX.cell (p := ⟨bb, bo + i * 4, none⟩) (by show bb < _; omega)).trans d0, (hX.cell (p := ⟨bb, bo + i * 4 + 1, none⟩) (by show bb < _; omega)).trans d1, (hX.cell (p := ⟨bb, bo + i * 4 + 2, none⟩) (by show bb < _; omega)).trans d2, (hX.cell (p := ⟨bb, bo + i * 4 + 3, none⟩) (by show bb < _; omega)).trans d3, (hX.cell (p := ⟨W.heap.size, 0, none⟩) (by show W.heap.size < _; omega)).trans p0, (hX.cell (p := ⟨W.heap.size, 1, none⟩) (by show W.heap.size < _; omega)).trans p1⟩)
    go_upto_region 7 with fail
    go_cut [86] (fun v wx => v = .bool false ∧ Below wr.heap.size wr wx)
    case first =>
      go_region_held3 (fun w' => w'.cell? ⟨bb, bo + i * 4, none⟩ = some (.int .i64 q0) ∧ w'.cell? ⟨bb, bo + i * 4 + 1, none⟩ = some (.int .i64 q1) ∧ w'.cell? ⟨bb, bo + i * 4 + 2, none⟩ = some (.int .i64 q2) ∧ w'.cell? ⟨bb, bo + i * 4 + 3, none⟩ = some (.int .i64 q3) ∧ w'.cell? ⟨W.heap.size, 0, none⟩ = some (.int .i64 x) ∧ w'.cell? ⟨W.heap.size, 1, none⟩ = some (.int .i64 y))
        ((first | exact HKP.out _ (by go_grown) | exact HKP.out _ hb7))
        (first | (go_at_call 7; refine (in_true q0 q1 q2 q3 x y _ f1 f2 f3 f4).mono ?_; first | rintro e w6 rfl hb6 | rintro e w6 ⟨rfl, hb6⟩; have hb7 : Below wr.heap.size wr w6 := Below.trans (by go_grown) (hb6.mono (by simp))))
      all_goals (
        go_wp2_with fail
        go_meet
        case rel => exact ⟨rfl, (by first | exact hb7 | exact hb7.drew)⟩)
    case rest =>
      obtain ⟨rfl, hbc⟩ := hcut
      have b3c : Below w3.heap.size w3 wc := hbw.trans (hbc.mono hzr)
      clear d0 d1 d2 d3 p0 p1 HKP f5d f6d
      go_wp2_with fail
      go_loopw [9] (fun kv wr' => ∃ k : Nat, kv = .int .i64 k ∧ k ≤ i ∧ Below w3.heap.size w3 wr') (fun kv _ => i - (intOf kv).toNat)
      case atStart => exact ⟨0, rfl, by omega, b3c⟩
      case round =>
        rename_i wq
        obtain ⟨k, rfl, hk, hbq⟩ := hrel
        have hzq := hbq.size
        by_cases hki : k < i ∧ i < 4
        rotate_left
        · by_cases hk1 : k < i
          · have hi4 : ¬ (i : Int) < 4 := fun hh => hki ⟨hk1, by omega⟩
            clear hki
            go_wp2_with fail
            go_roundw
            case rel => exact ⟨i + 1, by go_num, by omega, hbq⟩
            case measure => simp [intOf]; omega
          · clear hki
            go_wp2_with fail
            go_roundw
            case rel => exact ⟨i + 1, by go_num, by omega, hbq⟩
            case measure => simp [intOf]; omega
        obtain ⟨hk1, hi4⟩ := hki
        have hi4' : (i : Int) < 4 := by omega
        obtain ⟨a0, a1, a2, a3⟩ := HCS.out i hlt
        obtain ⟨e0, e1, e2, e3⟩ := HCS.out k (by omega)
        rw [HBX.out] at a0 a1 a2 a3
        have HNO := HAP.out k hk1 hi4
        generalize bxAt (Ca.around x y w h) k = by' at *
        obtain ⟨r0, r1, r2, r3⟩ := by'
        dsimp only at a0 a1 a2 a3 e0 e1 e2 e3 HNO
        have HN := Lib.hid HNO
        clear HNO
        have k1 : (0 : Int) ≤ k := by omega
        have k2 : (k : Int) < 8 := by omega
        have k3 : k < 8 := by omega
        have HKQ : Hid (∀ X, Below w3.heap.size w3 X → X.cell? ⟨bb, bo + i * 4, none⟩ = some (.int .i64 q0) ∧ X.cell? ⟨bb, bo + i * 4 + 1, none⟩ = some (.int .i64 q1) ∧ X.cell? ⟨bb, bo + i * 4 + 2, none⟩ = some (.int .i64 q2) ∧ X.cell? ⟨bb, bo + i * 4 + 3, none⟩ = some (.int .i64 q3) ∧ X.cell? ⟨bb, bo + k * 4, none⟩ = some (.int .i64 r0) ∧ X.cell? ⟨bb, bo + k * 4 + 1, none⟩ = some (.int .i64 r1) ∧ X.cell? ⟨bb, bo + k * 4 + 2, none⟩ = some (.int .i64 r2) ∧ X.cell? ⟨bb, bo + k * 4 + 3, none⟩ = some (.int .i64 r3)) :=
          Lib.hid (fun X hX => ⟨(hX.cell (p := ⟨bb, bo + i * 4, none⟩) hbb).trans a0, (hX.cell (p := ⟨bb, bo + i * 4 + 1, none⟩) hbb).trans a1, (hX.cell (p := ⟨bb, bo + i * 4 + 2, none⟩) hbb).trans a2, (hX.cell (p := ⟨bb, bo + i * 4 + 3, none⟩) hbb).trans a3, (hX.cell (p := ⟨bb, bo + k * 4, none⟩) hbb).trans e0, (hX.cell (p := ⟨bb, bo + k * 4 + 1, none⟩) hbb).trans e1, (hX.cell (p := ⟨bb, bo + k * 4 + 2, none⟩) hbb).trans e2, (hX.cell (p := ⟨bb, bo + k * 4 + 3, none⟩) hbb).trans e3⟩)
        clear a0 a1 a2 a3 e0 e1 e2 e3
        obtain ⟨d0, d1, d2, d3, d4, d5, d6, d7⟩ := HKQ.out _ hbq
        go_upto_region 12 with fail
        go_cut [104] (fun v wx => v = .bool false ∧ Below w3.heap.size w3 wx)
        case first =>
          go_region_held3 (fun w' => w'.cell? ⟨bb, bo + i * 4, none⟩ = some (.int .i64 q0) ∧ w'.cell? ⟨bb, bo + i * 4 + 1, none⟩ = some (.int .i64 q1) ∧ w'.cell? ⟨bb, bo + i * 4 + 2, none⟩ = some (.int .i64 q2) ∧ w'.cell? ⟨bb, bo + i * 4 + 3, none⟩ = some (.int .i64 q3) ∧ w'.cell? ⟨bb, bo + k * 4, none⟩ = some (.int .i64 r0) ∧ w'.cell? ⟨bb, bo + k * 4 + 1, none⟩ = some (.int .i64 r1) ∧ w'.cell? ⟨bb, bo + k * 4 + 2, none⟩ = some (.int .i64 r2) ∧ w'.cell? ⟨bb, bo + k * 4 + 3, none⟩ = some (.int .i64 r3))
            ((first | exact HKQ.out _ (by go_grown) | exact HKQ.out _ hb7))
            (first | (go_at_call 8; refine (over_false q0 q1 q2 q3 r0 r1 r2 r3 _ HN.out).mono ?_; first | rintro e w6 rfl hb6 | rintro e w6 ⟨rfl, hb6⟩; have hb7 : Below w3.heap.size w3 w6 := hbq.trans (Below.trans (by first | exact Below.refl _ _ | go_grown) (hb6.mono (by simp; omega)))))
          all_goals (
            go_wp2_with fail
            go_meet
            case rel => exact ⟨rfl, (by first | exact hb7 | exact hb7.drew)⟩)
        case rest =>
          obtain ⟨rfl, hbd⟩ := hcut
          clear d0 d1 d2 d3 d4 d5 d6 d7
          go_wp2_with fail
          go_roundw
          case rel => exact ⟨k + 1, by go_num, by omega, hbd⟩
          case measure => simp [intOf]; omega
end Go.Proofs.YtmmkgdindbdckaaGreatDoor
