/-
  Candidates: the examples of the chapter hold.
-/
import Derived.Test.YtmmkgdindbdckaaGreatDoorCaE
set_option linter.unusedVariables false
set_option linter.unusedSimpArgs false
namespace Go.Proofs.YtmmkgdindbdckaaGreatDoor
open Go.RowKit

theorem Bk.set4 {w : World} {b : Nat} {t : TypeId} {a0 a1 a2 a3 : Value} (h : Bk w b t #[a0, a1, a2, a3]) (v0 v1 v2 v3 : Value) : ∃ W, ((((w.setCell ⟨b, 0, none⟩ v0).setCell ⟨b, 1, none⟩ v1).setCell ⟨b, 2, none⟩ v2).setCell ⟨b, 3, none⟩ v3) = W ∧ Bk W b t #[v0, v1, v2, v3] ∧ (∀ (B : Nat) (w0 : World), Below B w0 w → B ≤ b → Below B w0 W) ∧ w.grownBy W (some b) := by
  refine ⟨_, rfl, ?_, fun B w0 hb hB => ?_, ?_⟩
  · have h9 := (((h.setAt 0 v0).setAt 1 v1).setAt 2 v2).setAt 3 v3
    simp only [List.setIfInBounds_toArray, List.set_cons_zero, List.set_cons_succ] at h9
    exact h9
  · exact (((hb.setCell hB v0).setCell hB v1).setCell hB v2).setCell hB v3
  · exact grown_trans (grown_trans (grown_trans (grown_setCell _ _ _ _) (grown_setCell _ _ _ _)) (grown_setCell _ _ _ _)) (grown_setCell _ _ _ _)
def TownPost (w : World) (e : Ending) (w' : World) : Prop := ∃ b bf f, e = .returned (.agg #[.slice (some ⟨b, 0, none⟩) 1 1, .slice none 0 0, .slice none 0 0, .slice (some ⟨bf, 0, none⟩) 1 1]) ∧ Ex w' b 0 bf 0 f ∧ Below w.heap.size w w'

set_option maxHeartbeats 8000000 in
theorem town_any (w : World) (ht : Gl.Tab w) (hm : MaxOk w) : Calls Tryz.prog 10 #[.agg #[.int .i64 10, .int .i64 10]] w (TownPost w) := by
  go_enter Tryz.func10, Tryz.ntmps10
  go_upto_region 1 with fail
  obtain ⟨W1, hW⟩ : ∃ X, (w.alloc (.cells #[.int .i64 10, .int .i64 10] 23)).alloc (.cells #[.slice none 0 0, .slice none 0 0, .slice none 0 0, .slice none 0 0] 42) = X := ⟨_, rfl⟩
  have b1 : Below w.heap.size w W1 := by rw [← hW]; exact ((Below.refl _ _).alloc (Nat.le_refl _) _).alloc (by simp) _
  have kP : Bk W1 w.heap.size 23 #[.int .i64 10, .int .i64 10] := by rw [← hW]; exact (Bk.new _ _ _).alloc _
  have kS : Bk W1 (w.heap.size + 1) 42 #[.slice none 0 0, .slice none 0 0, .slice none 0 0, .slice none 0 0] := by rw [← hW]; exact Bk.newAt (by simp) _ _
  rw [hW]
  clear hW
  have p0 := kP.cell 0
  have p1 := kP.cell 1
  have kA : Bk (((W1.alloc (.cells #[.int .i64 1, .int .i64 10, .int .i64 10] 55)).alloc (.cells #[.int .i64 1] 3)).alloc (.cells #[.int .i64 3, .int .i64 1, .int .i64 1, .string ⟨#[85, 114]⟩, .slice (some ⟨W1.heap.size + 1, 0, none⟩) 1 1] 57)) (w.heap.size + 1) 42 #[.slice none 0 0, .slice none 0 0, .slice none 0 0, .slice none 0 0] := ((kS.alloc _).alloc _).alloc _
  have s0 := kA.cell 0
  have s1 := kA.cell 1
  have s2 := kA.cell 2
  have s3 := kA.cell 3
  have g0 := kA.frozen 0
  have g1 := kA.frozen 1
  have g2 := kA.frozen 2
  have g3 := kA.frozen 3
  have lS := kS.lt
  simp only [List.getElem?_toArray, List.getElem?_cons_zero, List.getElem?_cons_succ] at p0 p1 s0 s1 s2 s3
  go_wp2_with fail
  obtain ⟨W2, hW⟩ : ∃ X, ((W1.alloc (.cells #[.int .i64 1, .int .i64 10, .int .i64 10] 55)).alloc (.cells #[.int .i64 1] 3)).alloc (.cells #[.int .i64 3, .int .i64 1, .int .i64 1, .string ⟨#[85, 114]⟩, .slice (some ⟨W1.heap.size + 1, 0, none⟩) 1 1] 57) = X := ⟨_, rfl⟩
  have hb2 : Below W1.heap.size W1 W2 := by rw [← hW]; exact (((Below.refl _ _).alloc (Nat.le_refl _) _).alloc (by simp) _).alloc (by simp; omega) _
  have kN : Bk W2 W1.heap.size 55 #[.int .i64 1, .int .i64 10, .int .i64 10] := by rw [← hW]; exact ((Bk.new _ _ _).alloc _).alloc _
  have kI : Bk W2 (W1.heap.size + 1) 3 #[.int .i64 1] := by rw [← hW]; exact (Bk.newAt (by simp) _ _).alloc _
  have kF : Bk W2 (W1.heap.size + 1 + 1) 57 #[.int .i64 3, .int .i64 1, .int .i64 1, .string ⟨#[85, 114]⟩, .slice (some ⟨W1.heap.size + 1, 0, none⟩) 1 1] := by rw [← hW]; exact Bk.newAt (by simp) _ _
  rw [hW]
  clear hW p0 p1 s0 s1 s2 s3 g0 g1 g2 g3 kA
  obtain ⟨W3, hW3, hk3, hb3, hg3⟩ := (kS.below hb2 lS).set4 (.slice (some ⟨W1.heap.size, 0, none⟩) 1 1) (.slice none 0 0) (.slice none 0 0) (.slice (some ⟨W1.heap.size + 1 + 1, 0, none⟩) 1 1)
  rw [hW3]
  clear hW3
  have q0 := hk3.cell 0
  have q1 := hk3.cell 1
  have q2 := hk3.cell 2
  have q3 := hk3.cell 3
  simp only [List.getElem?_toArray, List.getElem?_cons_zero, List.getElem?_cons_succ] at q0 q1 q2 q3
  have b3 : Below w.heap.size w W3 := hb3 w.heap.size w (b1.trans (hb2.mono b1.size)) (by omega)
  have kN3 := Bk.grown kN hg3 (fun e => by injection e; omega)
  have kI3 := Bk.grown kI hg3 (fun e => by injection e; omega)
  have kF3 := Bk.grown kF hg3 (fun e => by injection e; omega)
  refine bodyPost_ret (v := .agg #[.slice (some ⟨W1.heap.size, 0, none⟩) 1 1, .slice none 0 0, .slice none 0 0, .slice (some ⟨W1.heap.size + 1 + 1, 0, none⟩) 1 1]) (by simp [results, Tryz.results10, go_sem, q0, q1, q2, q3]) rfl ?_
  refine ⟨W1.heap.size, W1.heap.size + 1 + 1, ⟨3, 1, 1, urS, some ⟨W1.heap.size + 1, 0, none⟩, 1, 1, [1]⟩, rfl, ?_, b3⟩
  refine ⟨?_, ?_, ht.below b3 (Nat.le_refl _), hm.below b3 (Nat.le_refl _), rfl, rfl, rfl, rfl, rfl, rfl⟩
  · exact fun k hk => ⟨_, 0, rfl, kN3.lt, one_lt ⟨kN3.cell 0, kN3.cell 1, kN3.cell 2⟩⟩
  · exact ⟨fun k hk => ⟨_, 0, rfl, kF3.lt, one_lt ⟨kF3.cell 0, kF3.cell 1, kF3.cell 2, kF3.cell 3, kF3.cell 4⟩⟩, one_lt ⟨fun k hk => ⟨_, 0, rfl, kI3.lt, one_lt (kI3.cell 0)⟩, rfl⟩⟩

theorem ar_ex : Ca.around 10 10 4 3 = [(10, 10, 14, 13), (6, 10, 10, 13), (10, 7, 14, 10), (6, 7, 10, 10), (10, 9, 14, 12), (6, 9, 10, 12), (8, 10, 12, 13), (8, 7, 12, 10)] := by decide +kernel
theorem ar_ex0 : Ca.around 0 0 0 3 = [] := by decide +kernel

set_option maxRecDepth 4000 in
set_option maxHeartbeats 16000000 in
theorem lcawake_any (w : World) (ht : Gl.Tab w) (hm : MaxOk w) : Calls Tryz.prog 6 #[] w fun e w' => e = .returned (.bool true) ∧ Below w.heap.size w w' := by
  have HT := Lib.hid (town_any w ht hm)
  clear ht hm
  go_enter Tryz.func6, Tryz.ntmps6
  go_wp2_with fail
  refine HT.out.mono ?_
  rintro e w1 ⟨b, bf, f, rfl, E, b1⟩
  clear HT
  go_upto_region 2 with fail
  obtain ⟨W2, hW⟩ : ∃ X, w1.alloc (.cells #[.slice (some ⟨b, 0, none⟩) 1 1, .slice none 0 0, .slice none 0 0, .slice (some ⟨bf, 0, none⟩) 1 1] 42) = X := ⟨_, rfl⟩
  have hbW2 : Below w1.heap.size w1 W2 := by rw [← hW]; exact (Below.refl _ _).alloc (Nat.le_refl _) _
  have kS : Bk W2 w1.heap.size 42 #[.slice (some ⟨b, 0, none⟩) 1 1, .slice none 0 0, .slice none 0 0, .slice (some ⟨bf, 0, none⟩) 1 1] := by rw [← hW]; exact Bk.new _ _ _
  rw [hW]
  clear hW
  have b2 : Below w.heap.size w W2 := b1.trans (hbW2.mono b1.size)
  replace E := E.below hbW2
  have s0 := kS.cell 0
  simp only [List.getElem?_toArray, List.getElem?_cons_zero] at s0
  clear hbW2 b1
  go_upto_region 3 with fail
  obtain ⟨W3, hW⟩ : ∃ X, W2.alloc (.cells #[.int .i64 1, .slice none 0 0, .slice (some ⟨b, 0, none⟩) 1 1] 46) = X := ⟨_, rfl⟩
  have hbW3 : Below W2.heap.size W2 W3 := by rw [← hW]; exact (Below.refl _ _).alloc (Nat.le_refl _) _
  have kP : Bk W3 W2.heap.size 46 #[.int .i64 1, .slice none 0 0, .slice (some ⟨b, 0, none⟩) 1 1] := by rw [← hW]; exact Bk.new _ _ _
  rw [hW]
  clear hW
  have b3 : Below w.heap.size w W3 := b2.trans (hbW3.mono b2.size)
  replace E := E.below hbW3
  replace kS := kS.below hbW3 kS.lt
  clear hbW3 b2 s0
  have s0 := kS.cell 0
  have s1 := kS.cell 1
  have s2 := kS.cell 2
  have s3 := kS.cell 3
  have p0 := kP.cell 0
  have p1 := kP.cell 1
  have p2 := kP.cell 2
  simp only [List.getElem?_toArray, List.getElem?_cons_zero, List.getElem?_cons_succ] at s0 s1 s2 s3 p0 p1 p2
  go_wp2_with fail
  refine (canchors_hit true b 0 1 bf 0 1 f _ E (Nat.le_refl _)).mono ?_
  rintro e w4 ⟨v, rfl, hb4, g, cap, hv, gl, gc0, gc1⟩
  injection hv with hv
  subst hv
  clear s0 s1 s2 s3 p0 p1 p2
  replace E := E.below hb4
  replace kS := kS.below hb4 kS.lt
  replace kP := kP.below hb4 kP.lt
  have b4 : Below w.heap.size w w4 := b3.trans (hb4.mono b3.size)
  clear hb4 b3
  have s0 := kS.cell 0
  have s1 := kS.cell 1
  have s2 := kS.cell 2
  have s3 := kS.cell 3
  have p0 := kP.cell 0
  have p1 := kP.cell 1
  have p2 := kP.cell 2
  simp only [List.getElem?_toArray, List.getElem?_cons_zero, List.getElem?_cons_succ] at s0 s1 s2 s3 p0 p1 p2
  go_wp2_with fail
  refine (canchors_miss true b 0 1 bf 0 1 f 4 _ E (Nat.le_refl _) (by decide)).mono ?_
  first | rintro e w5 rfl hb5 | rintro e w5 ⟨rfl, hb5⟩
  clear s0 s1 s2 s3 p0 p1 p2
  replace E := E.below hb5
  replace kS := kS.below hb5 kS.lt
  replace kP := kP.below hb5 kP.lt
  replace gc0 := (hb5.cell (p := ⟨g, 0, none⟩) gl).trans gc0
  replace gc1 := (hb5.cell (p := ⟨g, 1, none⟩) gl).trans gc1
  replace gl := Nat.lt_of_lt_of_le gl hb5.size
  have b5 : Below w.heap.size w w5 := b4.trans (hb5.mono b4.size)
  clear hb5 b4
  have s0 := kS.cell 0
  have s1 := kS.cell 1
  have s2 := kS.cell 2
  have s3 := kS.cell 3
  have p0 := kP.cell 0
  have p1 := kP.cell 1
  have p2 := kP.cell 2
  simp only [List.getElem?_toArray, List.getElem?_cons_zero, List.getElem?_cons_succ] at s0 s1 s2 s3 p0 p1 p2
  go_wp2_with fail
  refine (canchors_hit false b 0 1 bf 0 1 f _ E (Nat.le_refl _)).mono ?_
  rintro e w6 ⟨v, rfl, hb6, hv⟩
  injection hv with hv
  subst hv
  clear s0 s1 s2 s3 p0 p1 p2
  replace E := E.below hb6
  replace kS := kS.below hb6 kS.lt
  replace kP := kP.below hb6 kP.lt
  replace gc0 := (hb6.cell (p := ⟨g, 0, none⟩) gl).trans gc0
  replace gc1 := (hb6.cell (p := ⟨g, 1, none⟩) gl).trans gc1
  replace gl := Nat.lt_of_lt_of_le gl hb6.size
  have b6 : Below w.heap.size w w6 := b5.trans (hb6.mono b5.size)
  clear hb6 b5
  go_wp2_with fail
  refine (caround_any 10 10 4 3 _).mono ?_
  rintro e w7 ⟨v, rfl, hov, hb7⟩
  rw [ar_ex] at hov
  obtain ⟨AL, cL, rfl, hRB⟩ := hov.form
  replace E := E.below hb7
  replace kS := kS.below hb7 kS.lt
  replace kP := kP.below hb7 kP.lt
  replace gc0 := (hb7.cell (p := ⟨g, 0, none⟩) gl).trans gc0
  replace gc1 := (hb7.cell (p := ⟨g, 1, none⟩) gl).trans gc1
  replace gl := Nat.lt_of_lt_of_le gl hb7.size
  have b7 : Below w.heap.size w w7 := b6.trans (hb7.mono b6.size)
  clear hov hb7 b6
  have HR := Lib.hid hRB
  clear hRB
  have s0 := kS.cell 0
  have s1 := kS.cell 1
  have s2 := kS.cell 2
  have s3 := kS.cell 3
  have p0 := kP.cell 0
  have p1 := kP.cell 1
  have p2 := kP.cell 2
  simp only [List.getElem?_toArray, List.getElem?_cons_zero, List.getElem?_cons_succ] at s0 s1 s2 s3 p0 p1 p2
  go_wp2_with fail
  refine (cfeat_hit b 0 1 bf 0 1 f _ E (Nat.le_refl _)).mono ?_
  first | rintro e w8 rfl hb8 | rintro e w8 ⟨rfl, hb8⟩
  clear s0 s1 s2 s3 p0 p1 p2
  replace E := E.below hb8
  replace kS := kS.below hb8 kS.lt
  replace kP := kP.below hb8 kP.lt
  replace gc0 := (hb8.cell (p := ⟨g, 0, none⟩) gl).trans gc0
  replace gc1 := (hb8.cell (p := ⟨g, 1, none⟩) gl).trans gc1
  replace gl := Nat.lt_of_lt_of_le gl hb8.size
  have HR8 := Lib.hid (RBx.below HR.out hb8)
  have b8 : Below w.heap.size w w8 := b7.trans (hb8.mono b7.size)
  clear hb8 b7 HR
  have s0 := kS.cell 0
  have s1 := kS.cell 1
  have s2 := kS.cell 2
  have s3 := kS.cell 3
  have p0 := kP.cell 0
  have p1 := kP.cell 1
  have p2 := kP.cell 2
  simp only [List.getElem?_toArray, List.getElem?_cons_zero, List.getElem?_cons_succ] at s0 s1 s2 s3 p0 p1 p2
  go_wp2_with fail
  refine (cfeat_miss b 0 1 bf 0 1 f 5 _ E (Nat.le_refl _) (by decide)).mono ?_
  first | rintro e w9 rfl hb9 | rintro e w9 ⟨rfl, hb9⟩
  clear s0 s1 s2 s3 p0 p1 p2
  replace gc0 := (hb9.cell (p := ⟨g, 0, none⟩) gl).trans gc0
  replace gc1 := (hb9.cell (p := ⟨g, 1, none⟩) gl).trans gc1
  have b9 : Below w.heap.size w w9 := b8.trans (hb9.mono b8.size)
  obtain ⟨bb, bo, rfl, _, hcs⟩ := (RBx.below HR8.out hb9) 0 (by simp)
  clear hb9 b8 HR8 kS kP E
  obtain ⟨u00, u01, u02, u03⟩ := hcs 0 (by simp)
  obtain ⟨u10, u11, u12, u13⟩ := hcs 1 (by simp)
  obtain ⟨u20, u21, u22, u23⟩ := hcs 2 (by simp)
  obtain ⟨u30, u31, u32, u33⟩ := hcs 3 (by simp)
  obtain ⟨u40, u41, u42, u43⟩ := hcs 4 (by simp)
  obtain ⟨u70, u71, u72, u73⟩ := hcs 7 (by simp)
  simp [bxAt] at u00 u01 u02 u03 u10 u11 u12 u13 u20 u21 u22 u23 u30 u31 u32 u33 u40 u41 u42 u43 u70 u71 u72 u73
  clear hcs
  go_wp2_with fail
  refine (caround_any 0 0 0 3 _).mono ?_
  rintro e w10 ⟨v, rfl, hov, hb10⟩
  rw [ar_ex0] at hov
  obtain ⟨AZ, cZ, rfl, _⟩ := hov.form
  go_wp2_with fail
  go_ret
  exact ⟨rfl, b9.trans (hb10.mono b9.size)⟩
end Go.Proofs.YtmmkgdindbdckaaGreatDoor
