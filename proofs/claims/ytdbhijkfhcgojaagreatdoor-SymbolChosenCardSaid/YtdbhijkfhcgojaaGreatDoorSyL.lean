/-
  Symbols: the examples of the chapter hold.
-/
import Derived.Test.YtdbhijkfhcgojaaGreatDoorSyK
import Derived.ChangeKeysEq
set_option linter.unusedVariables false
set_option linter.unusedSimpArgs false
namespace Go.Proofs.YtdbhijkfhcgojaaGreatDoor
open Go.RowKit

theorem Bk.newAt {X : World} {n : Nat} (h : X.heap.size = n) (cs : Array Value) (t : TypeId) : Bk (X.alloc (.cells cs t)) n t cs := h ▸ Bk.new X cs t
theorem lt2 {P : Nat → Prop} (h0 : P 0) (h1 : P 1) : ∀ k, k < 2 → P k := fun k hk => by
  obtain rfl | rfl : k = 0 ∨ k = 1 := by omega
  · exact h0
  · exact h1
def twn : Sym := ⟨1, 1, 2, 2, 0, 0, 0, 0, 0⟩
def twnA : Array Value := #[.int .i64 1, .int .i64 1, .int .i64 2, .int .i64 2, .int .i64 0, .int .i64 0, .int .i64 0, .int .i64 0, .int .i64 0]
theorem rsy_one {W : World} {B : Nat} (h : Bk W B 26 #[.int .i64 1, .int .i64 1, .int .i64 2, .int .i64 2, .int .i64 0, .int .i64 0, .int .i64 0, .int .i64 0, .int .i64 0]) : RSy W (some ⟨B, 0, none⟩) [twn] := fun k hk =>
  ⟨B, 0, rfl, h.lt, fun j hj => by
    obtain rfl : j = 0 := by simp at hj; omega
    exact ⟨h.cell 0, h.cell 1, h.cell 2, h.cell 3, h.cell 4, h.cell 5, h.cell 6, h.cell 7, h.cell 8⟩⟩
theorem rsy_two {W : World} {B : Nat} (h : Bk W B 26 #[.int .i64 1, .int .i64 1, .int .i64 2, .int .i64 2, .int .i64 0, .int .i64 0, .int .i64 0, .int .i64 0, .int .i64 0, .int .i64 1, .int .i64 1, .int .i64 2, .int .i64 2, .int .i64 0, .int .i64 0, .int .i64 0, .int .i64 0, .int .i64 0]) : RSy W (some ⟨B, 0, none⟩) [twn, twn] := fun k hk =>
  ⟨B, 0, rfl, h.lt, fun j hj => by
    obtain rfl | rfl : j = 0 ∨ j = 1 := by simp at hj; omega
    · exact ⟨h.cell 0, h.cell 1, h.cell 2, h.cell 3, h.cell 4, h.cell 5, h.cell 6, h.cell 7, h.cell 8⟩
    · exact ⟨h.cell 9, h.cell 10, h.cell 11, h.cell 12, h.cell 13, h.cell 14, h.cell 15, h.cell 16, h.cell 17⟩⟩
def exN : List Nd := [⟨1, 0, 0⟩, ⟨2, 9, 0⟩]
def exF (p q : Nat) : List Ftr := [⟨1, 1, 1, ⟨#[]⟩, some ⟨p, 0, none⟩, 1, 1, [1]⟩, ⟨2, 1, 1, ⟨#[]⟩, some ⟨q, 0, none⟩, 1, 1, [2]⟩]
theorem exN_good : Good exN where
  few := by decide
  asc := fun i hi => by
    obtain rfl : i = 0 := by simp [ids, exN] at hi; omega
    decide
  inn := lt2 (by decide) (by decide)
  placed := lt2 (by decide) (by decide)
  apart := fun i j hj hi => by
    obtain ⟨rfl, rfl⟩ : i = 1 ∧ j = 0 := by simp [exN] at hi; omega
    decide
theorem exF_good (p q : Nat) : GoodF exN (exF p q) where
  few := by simp [exF]
  one := lt2 rfl rfl
  idr := lt2 (by simp [exF, ft]) (by simp [exF, ft])
  kind := lt2 (Or.inl rfl) (Or.inl rfl)
  nam := lt2 rfl rfl
  part := lt2 ⟨0, 1, by decide, rfl, rfl, fun j hj => absurd hj (by omega)⟩ ⟨1, 2, by decide, rfl, rfl, fun j hj => (show j = 0 by omega) ▸ (by decide : (nd exN 0).id ≠ 2)⟩
  asc := fun k h0 hk => by
    obtain rfl : k = 1 := by simp [exF] at hk; omega
    simp [exF, ft]
  alone := fun j k hj hk => by
    obtain ⟨rfl, rfl⟩ : k = 1 ∧ j = 0 := by simp [exF] at hk; omega
    simp [exF, ft, gi]
theorem exN_read {W : World} {B : Nat} (h : Bk W B 40 #[.int .i64 1, .int .i64 0, .int .i64 0, .int .i64 2, .int .i64 9, .int .i64 0]) : RN W (some ⟨B, 0, none⟩) exN := fun k hk =>
  ⟨B, 0, rfl, h.lt, lt2 ⟨h.cell 0, h.cell 1, h.cell 2⟩ ⟨h.cell 3, h.cell 4, h.cell 5⟩⟩
theorem ri_one {W : World} {B : Nat} {p : Int} (h : Bk W B 3 #[.int .i64 p]) : RI W (some ⟨B, 0, none⟩) [p] := fun k hk =>
  ⟨B, 0, rfl, h.lt, fun j hj => by
    obtain rfl : j = 0 := by simp at hj; omega
    exact h.cell 0⟩
theorem exF_read {W : World} {B p q : Nat} (h : Bk W B 47 #[.int .i64 1, .int .i64 1, .int .i64 1, .string ⟨#[]⟩, .slice (some ⟨p, 0, none⟩) 1 1, .int .i64 2, .int .i64 1, .int .i64 1, .string ⟨#[]⟩, .slice (some ⟨q, 0, none⟩) 1 1])
    (hp : Bk W p 3 #[.int .i64 1]) (hq : Bk W q 3 #[.int .i64 2]) : RF W (some ⟨B, 0, none⟩) (exF p q) :=
  ⟨fun k hk => ⟨B, 0, rfl, h.lt, lt2 ⟨h.cell 0, h.cell 1, h.cell 2, h.cell 3, h.cell 4⟩ ⟨h.cell 5, h.cell 6, h.cell 7, h.cell 8, h.cell 9⟩⟩,
   lt2 ⟨ri_one hp, rfl⟩ ⟨ri_one hq, rfl⟩⟩
theorem exF_taken (p q : Nat) : Sy.taken exN (exF p q) [twn] (0, 0, 5, 5) = [(-1, -1, 1, 1)] := by kernel_rfl

theorem yfind_ex1 (B : Nat) (w : World) (h : RSy w (some ⟨B, 0, none⟩) [twn]) : Calls Tryz.prog 7 #[.slice (some ⟨B, 0, none⟩) 1 1, .int .i64 1, .int .i64 1] w fun e w' => e = .returned (.tuple #[.agg #[.int .i64 1, .int .i64 1, .int .i64 2, .int .i64 2, .int .i64 0, .int .i64 0, .int .i64 0, .int .i64 0, .int .i64 0], .bool true]) ∧ Below w.heap.size w w' :=
  yfind_at (some ⟨B, 0, none⟩) 1 1 [twn] 1 1 twn true w (by kernel_rfl) rfl (by decide) h
theorem yfind_ex2 (B : Nat) (w : World) (h : RSy w (some ⟨B, 0, none⟩) [twn]) : Calls Tryz.prog 7 #[.slice (some ⟨B, 0, none⟩) 1 1, .int .i64 1, .int .i64 2] w fun e w' => e = .returned (.tuple #[.agg #[.int .i64 0, .int .i64 0, .int .i64 0, .int .i64 0, .int .i64 0, .int .i64 0, .int .i64 0, .int .i64 0, .int .i64 0], .bool false]) ∧ Below w.heap.size w w' :=
  yfind_at (some ⟨B, 0, none⟩) 1 1 [twn] 1 2 Sym.zero false w (by kernel_rfl) rfl (by decide) h
theorem rbx_one {W : World} {B : Nat} (h : Bk W B 35 #[.int .i64 (-1), .int .i64 (-1), .int .i64 1, .int .i64 1]) : RBx W (some ⟨B, 0, none⟩) [(-1, -1, 1, 1)] := fun k hk =>
  ⟨B, 0, rfl, h.lt, fun j hj => by
    obtain rfl : j = 0 := by simp at hj; omega
    exact ⟨h.cell 0, h.cell 1, h.cell 2, h.cell 3⟩⟩
theorem inks_self (a b c d : Int) (w : World) : (Op.equalIn 9999 24 (.agg #[.int .i64 a, .int .i64 b, .int .i64 c, .int .i64 d]) (.agg #[.int .i64 a, .int .i64 b, .int .i64 c, .int .i64 d])).run Tryz.prog w = .ok true w := by
  obtain ⟨i0, hi, _⟩ := info_parts int_info
  rw [run_equalIn_array w 9998 _ _ Tryz.underlying24 hi, int_cells]
  simp [Op.eqItems, List.range_succ, go_sem, Tryz.underlying3, part]
theorem ybox_ex (w : World) : Calls Tryz.prog 11 #[.agg #[.int .i64 0, .int .i64 0, .int .i64 5, .int .i64 4, .int .i64 0, .int .i64 0, .int .i64 0, .int .i64 0, .int .i64 0], .agg #[.int .i64 10, .int .i64 10]] w fun e w' => e = .returned (.agg #[.int .i64 8, .int .i64 8, .int .i64 13, .int .i64 12]) ∧ Below w.heap.size w w' :=
  ybox_any ⟨0, 0, 5, 4, 0, 0, 0, 0, 0⟩ 10 10 w

set_option maxRecDepth 4000 in
set_option maxHeartbeats 16000000 in
theorem lyawake_any (w : World) : Calls Tryz.prog 6 #[] w fun e w' => e = .returned (.bool true) ∧ Below w.heap.size w w' := by
  go_enter Tryz.func6, Tryz.ntmps6
  go_upto_region 2 with fail
  obtain ⟨W1, hW⟩ : ∃ X, w.alloc (.cells #[.int .i64 1, .int .i64 1, .int .i64 2, .int .i64 2, .int .i64 0, .int .i64 0, .int .i64 0, .int .i64 0, .int .i64 0] 26) = X := ⟨_, rfl⟩
  have b1 : Below w.heap.size w W1 := by rw [← hW]; exact (Below.refl _ _).alloc (Nat.le_refl _) _
  have kt : Bk W1 w.heap.size 26 #[.int .i64 1, .int .i64 1, .int .i64 2, .int .i64 2, .int .i64 0, .int .i64 0, .int .i64 0, .int .i64 0, .int .i64 0] := by rw [← hW]; exact Bk.new _ _ _
  rw [hW]
  clear hW
  go_upto_region 3 with fail
  obtain ⟨W2, hW⟩ : ∃ X, ((((W1.alloc (.cells #[.int .i64 1, .int .i64 0, .int .i64 0, .int .i64 2, .int .i64 9, .int .i64 0] 40)).alloc (.cells #[.int .i64 1] 3)).alloc (.cells #[.int .i64 2] 3)).alloc (.cells #[.int .i64 1, .int .i64 1, .int .i64 1, .string ⟨#[]⟩, .slice (some ⟨W1.heap.size + 1, 0, none⟩) 1 1, .int .i64 2, .int .i64 1, .int .i64 1, .string ⟨#[]⟩, .slice (some ⟨W1.heap.size + 1 + 1, 0, none⟩) 1 1] 47)).alloc (.cells #[.slice (some ⟨W1.heap.size, 0, none⟩) 2 2, .slice none 0 0, .slice none 0 0, .slice (some ⟨W1.heap.size + 1 + 1 + 1, 0, none⟩) 2 2] 50) = X := ⟨_, rfl⟩
  have b2 : Below W1.heap.size W1 W2 := by rw [← hW]; exact (((((Below.refl _ _).alloc (Nat.le_refl _) _).alloc (by simp) _).alloc (by simp; omega) _).alloc (by simp; omega) _).alloc (by simp; omega) _
  have kn : Bk W2 W1.heap.size 40 #[.int .i64 1, .int .i64 0, .int .i64 0, .int .i64 2, .int .i64 9, .int .i64 0] := by rw [← hW]; exact ((((Bk.new _ _ _).alloc _).alloc _).alloc _).alloc _
  have kp : Bk W2 (W1.heap.size + 1) 3 #[.int .i64 1] := by rw [← hW]; exact (((Bk.newAt (by simp) _ _).alloc _).alloc _).alloc _
  have kq : Bk W2 (W1.heap.size + 1 + 1) 3 #[.int .i64 2] := by rw [← hW]; exact ((Bk.newAt (by simp) _ _).alloc _).alloc _
  have kf : Bk W2 (W1.heap.size + 1 + 1 + 1) 47 #[.int .i64 1, .int .i64 1, .int .i64 1, .string ⟨#[]⟩, .slice (some ⟨W1.heap.size + 1, 0, none⟩) 1 1, .int .i64 2, .int .i64 1, .int .i64 1, .string ⟨#[]⟩, .slice (some ⟨W1.heap.size + 1 + 1, 0, none⟩) 1 1] := by rw [← hW]; exact (Bk.newAt (by simp) _ _).alloc _
  have ks : Bk W2 (W1.heap.size + 1 + 1 + 1 + 1) 50 #[.slice (some ⟨W1.heap.size, 0, none⟩) 2 2, .slice none 0 0, .slice none 0 0, .slice (some ⟨W1.heap.size + 1 + 1 + 1, 0, none⟩) 2 2] := by rw [← hW]; exact Bk.newAt (by simp) _ _
  rw [hW]
  clear hW
  have kt2 := kt.below b2 kt.lt
  have b02 : Below w.heap.size w W2 := b1.trans (b2.mono b1.size)
  have t0 := kt2.cell 0
  have t1 := kt2.cell 1
  have t2 := kt2.cell 2
  have t3 := kt2.cell 3
  have t4 := kt2.cell 4
  have t5 := kt2.cell 5
  have t6 := kt2.cell 6
  have t7 := kt2.cell 7
  have t8 := kt2.cell 8
  simp only [List.getElem?_toArray, List.getElem?_cons_zero, List.getElem?_cons_succ] at t0 t1 t2 t3 t4 t5 t6 t7 t8
  have s0 := ks.cell 0
  have s1 := ks.cell 1
  have s2 := ks.cell 2
  have s3 := ks.cell 3
  simp only [List.getElem?_toArray, List.getElem?_cons_zero, List.getElem?_cons_succ] at s0 s1 s2 s3
  go_wp2_with fail
  obtain ⟨W3, hW⟩ : ∃ X, W2.alloc (.cells #[.int .i64 1, .int .i64 1, .int .i64 2, .int .i64 2, .int .i64 0, .int .i64 0, .int .i64 0, .int .i64 0, .int .i64 0] 26) = X := ⟨_, rfl⟩
  have b3 : Below W2.heap.size W2 W3 := by rw [← hW]; exact (Below.refl _ _).alloc (Nat.le_refl _) _
  have kl : Bk W3 W2.heap.size 26 #[.int .i64 1, .int .i64 1, .int .i64 2, .int .i64 2, .int .i64 0, .int .i64 0, .int .i64 0, .int .i64 0, .int .i64 0] := by rw [← hW]; exact Bk.new _ _ _
  rw [hW]
  clear hW t0 t1 t2 t3 t4 t5 t6 t7 t8 s0 s1 s2 s3
  have HT := Lib.hid (taken_ok exN (exF (W1.heap.size + 1) (W1.heap.size + 1 + 1)) [twn] (0, 0, 5, 5) (some ⟨W1.heap.size, 0, none⟩) (some ⟨W1.heap.size + 1 + 1 + 1, 0, none⟩) (some ⟨W2.heap.size, 0, none⟩) 2 2 2 2 1 1 W3 rfl (Nat.le_refl _) (exN_read (kn.below b3 kn.lt)) exN_good rfl (exF_read (kf.below b3 kf.lt) (kp.below b3 kp.lt) (kq.below b3 kq.lt)) (exF_good _ _) rfl (rsy_one kl) (by decide))
  refine HT.out.mono ?_
  rintro e w4 ⟨v, rfl, hv, hb4⟩
  rw [exF_taken] at hv
  obtain ⟨AB, cB, rfl, hRB⟩ := hv.one
  have b04 : Below w.heap.size w w4 := (b02.trans (b3.mono b02.size)).trans (hb4.mono (Nat.le_trans b02.size b3.size))
  have kt4 := (kt2.below b3 kt2.lt).below hb4 (Nat.lt_of_lt_of_le kt2.lt b3.size)
  have HRB := Lib.hid hRB
  clear hv hRB HT kn kp kq kf ks kt2 kl b3 hb4 b02 b2 b1 kt
  have t0 := kt4.cell 0
  have t1 := kt4.cell 1
  have t2 := kt4.cell 2
  have t3 := kt4.cell 3
  have t4 := kt4.cell 4
  have t5 := kt4.cell 5
  have t6 := kt4.cell 6
  have t7 := kt4.cell 7
  have t8 := kt4.cell 8
  simp only [List.getElem?_toArray, List.getElem?_cons_zero, List.getElem?_cons_succ] at t0 t1 t2 t3 t4 t5 t6 t7 t8

  go_wp2_with fail
  obtain ⟨W5, hW⟩ : ∃ X, w4.alloc (.cells #[.int .i64 1, .int .i64 1, .int .i64 2, .int .i64 2, .int .i64 0, .int .i64 0, .int .i64 0, .int .i64 0, .int .i64 0] 26) = X := ⟨_, rfl⟩
  have hbW5 : Below w4.heap.size w4 W5 := by rw [← hW]; exact (Below.refl _ _).alloc (Nat.le_refl _) _
  have k5 : Bk W5 w4.heap.size 26 #[.int .i64 1, .int .i64 1, .int .i64 2, .int .i64 2, .int .i64 0, .int .i64 0, .int .i64 0, .int .i64 0, .int .i64 0] := by rw [← hW]; exact Bk.new _ _ _
  rw [hW]
  clear hW
  refine (yfind_ex1 w4.heap.size _ (rsy_one k5)).mono ?_
  first | rintro e w6 rfl hb6 | rintro e w6 ⟨rfl, hb6⟩
  have b46 : Below w4.heap.size w4 w6 := hbW5.trans (hb6.mono hbW5.size)
  have b06 : Below w.heap.size w w6 := b04.trans (b46.mono b04.size)
  have kt6 := kt4.below b46 kt4.lt
  have HRB6 := Lib.hid (HRB.out.below b46)
  clear t0 t1 t2 t3 t4 t5 t6 t7 t8 kt4 HRB b04 hb6 hbW5 k5 b46
  go_upto_region 5 with fail
  obtain ⟨W7, hW⟩ : ∃ X, w6.alloc (.cells #[.int .i64 1, .int .i64 1, .int .i64 2, .int .i64 2, .int .i64 0, .int .i64 0, .int .i64 0, .int .i64 0, .int .i64 0] 26) = X := ⟨_, rfl⟩
  have hbW7 : Below w6.heap.size w6 W7 := by rw [← hW]; exact (Below.refl _ _).alloc (Nat.le_refl _) _
  have kx : Bk W7 w6.heap.size 26 #[.int .i64 1, .int .i64 1, .int .i64 2, .int .i64 2, .int .i64 0, .int .i64 0, .int .i64 0, .int .i64 0, .int .i64 0] := by rw [← hW]; exact Bk.new _ _ _
  rw [hW]
  clear hW
  have kt7 := kt6.below hbW7 kt6.lt
  have b07 : Below w.heap.size w W7 := b06.trans (hbW7.mono b06.size)
  have HRB7 := Lib.hid (HRB6.out.below hbW7)
  clear kt6 b06 HRB6 hbW7
  have t0 := kt7.cell 0
  have t1 := kt7.cell 1
  have t2 := kt7.cell 2
  have t3 := kt7.cell 3
  have t4 := kt7.cell 4
  have t5 := kt7.cell 5
  have t6 := kt7.cell 6
  have t7 := kt7.cell 7
  have t8 := kt7.cell 8
  simp only [List.getElem?_toArray, List.getElem?_cons_zero, List.getElem?_cons_succ] at t0 t1 t2 t3 t4 t5 t6 t7 t8

  go_wp2_with fail
  obtain ⟨W8, hW⟩ : ∃ X, W7.alloc (.cells #[.int .i64 1, .int .i64 1, .int .i64 2, .int .i64 2, .int .i64 0, .int .i64 0, .int .i64 0, .int .i64 0, .int .i64 0] 26) = X := ⟨_, rfl⟩
  have hbW8 : Below W7.heap.size W7 W8 := by rw [← hW]; exact (Below.refl _ _).alloc (Nat.le_refl _) _
  have k8 : Bk W8 W7.heap.size 26 #[.int .i64 1, .int .i64 1, .int .i64 2, .int .i64 2, .int .i64 0, .int .i64 0, .int .i64 0, .int .i64 0, .int .i64 0] := by rw [← hW]; exact Bk.new _ _ _
  rw [hW]
  clear hW
  refine (yfind_ex2 W7.heap.size _ (rsy_one k8)).mono ?_
  first | rintro e w9 rfl hb9 | rintro e w9 ⟨rfl, hb9⟩
  have b79 : Below W7.heap.size W7 w9 := hbW8.trans (hb9.mono hbW8.size)
  have b09 : Below w.heap.size w w9 := b07.trans (b79.mono b07.size)
  have kt9 := kt7.below b79 kt7.lt
  have kx9 := kx.below b79 kx.lt
  have HRB9 := Lib.hid (HRB7.out.below b79)
  clear t0 t1 t2 t3 t4 t5 t6 t7 t8 kt7 kx HRB7 b07 hb9 hbW8 k8 b79
  go_upto_region 6 with fail
  obtain ⟨W10, hW⟩ : ∃ X, w9.alloc (.cells #[.int .i64 0, .int .i64 0, .int .i64 0, .int .i64 0, .int .i64 0, .int .i64 0, .int .i64 0, .int .i64 0, .int .i64 0] 26) = X := ⟨_, rfl⟩
  have hbW10 : Below w9.heap.size w9 W10 := by rw [← hW]; exact (Below.refl _ _).alloc (Nat.le_refl _) _
  have kz : Bk W10 w9.heap.size 26 #[.int .i64 0, .int .i64 0, .int .i64 0, .int .i64 0, .int .i64 0, .int .i64 0, .int .i64 0, .int .i64 0, .int .i64 0] := by rw [← hW]; exact Bk.new _ _ _
  rw [hW]
  clear hW
  have b010 : Below w.heap.size w W10 := b09.trans (hbW10.mono b09.size)
  have kt10 := kt9.below hbW10 kt9.lt
  have kx10 := kx9.below hbW10 kx9.lt
  have HRB10 := Lib.hid (HRB9.out.below hbW10)
  clear kt9 kx9 HRB9 b09 hbW10 kz
  go_wp2_with fail
  obtain ⟨W11, hW⟩ : ∃ X, W10.alloc (.cells #[.int .i64 (-1), .int .i64 (-1), .int .i64 1, .int .i64 1] 35) = X := ⟨_, rfl⟩
  have hbW11 : Below W10.heap.size W10 W11 := by rw [← hW]; exact (Below.refl _ _).alloc (Nat.le_refl _) _
  have kb : Bk W11 W10.heap.size 35 #[.int .i64 (-1), .int .i64 (-1), .int .i64 1, .int .i64 1] := by rw [← hW]; exact Bk.new _ _ _
  rw [hW]
  clear hW
  refine (rysame_eq AB (some ⟨W10.heap.size, 0, none⟩) cB 1 1 [(-1, -1, 1, 1)] _ rfl (by decide) (HRB10.out.below hbW11) (rbx_one kb)).mono ?_
  first | rintro e w12 rfl hb12 | rintro e w12 ⟨rfl, hb12⟩
  have b1012 : Below W10.heap.size W10 w12 := hbW11.trans (hb12.mono hbW11.size)
  have b012 : Below w.heap.size w w12 := b010.trans (b1012.mono b010.size)
  have kt12 := kt10.below b1012 kt10.lt
  have kx12 := kx10.below b1012 kx10.lt
  clear kt10 kx10 HRB10 b010 hbW11 kb hb12 b1012
  have t0 := kt12.cell 0
  have t1 := kt12.cell 1
  have t2 := kt12.cell 2
  have t3 := kt12.cell 3
  have t4 := kt12.cell 4
  have t5 := kt12.cell 5
  have t6 := kt12.cell 6
  have t7 := kt12.cell 7
  have t8 := kt12.cell 8
  simp only [List.getElem?_toArray, List.getElem?_cons_zero, List.getElem?_cons_succ] at t0 t1 t2 t3 t4 t5 t6 t7 t8
  have x0 := kx12.cell 0
  have x1 := kx12.cell 1
  have x2 := kx12.cell 2
  have x3 := kx12.cell 3
  have x4 := kx12.cell 4
  have x5 := kx12.cell 5
  have x6 := kx12.cell 6
  have x7 := kx12.cell 7
  have x8 := kx12.cell 8
  simp only [List.getElem?_toArray, List.getElem?_cons_zero, List.getElem?_cons_succ] at x0 x1 x2 x3 x4 x5 x6 x7 x8
  have hik := inks_self 0 0 0 0
  go_wp2_with fail
  refine (ybox_ex _).mono ?_
  first | rintro e w13 rfl hb13 | rintro e w13 ⟨rfl, hb13⟩
  have b013 : Below w.heap.size w w13 := b012.trans (hb13.mono b012.size)
  have kt13 := kt12.below hb13 kt12.lt
  clear t0 t1 t2 t3 t4 t5 t6 t7 t8 x0 x1 x2 x3 x4 x5 x6 x7 x8 kt12 kx12 b012 hb13
  have t0 := kt13.cell 0
  have t1 := kt13.cell 1
  have t2 := kt13.cell 2
  have t3 := kt13.cell 3
  have t4 := kt13.cell 4
  have t5 := kt13.cell 5
  have t6 := kt13.cell 6
  have t7 := kt13.cell 7
  have t8 := kt13.cell 8
  simp only [List.getElem?_toArray, List.getElem?_cons_zero, List.getElem?_cons_succ] at t0 t1 t2 t3 t4 t5 t6 t7 t8
  go_wp2_with fail
  obtain ⟨W14, hW⟩ : ∃ X, w13.alloc (.cells #[.int .i64 1, .int .i64 1, .int .i64 2, .int .i64 2, .int .i64 0, .int .i64 0, .int .i64 0, .int .i64 0, .int .i64 0, .int .i64 1, .int .i64 1, .int .i64 2, .int .i64 2, .int .i64 0, .int .i64 0, .int .i64 0, .int .i64 0, .int .i64 0] 26) = X := ⟨_, rfl⟩
  have hbW14 : Below w13.heap.size w13 W14 := by rw [← hW]; exact (Below.refl _ _).alloc (Nat.le_refl _) _
  have k14 : Bk W14 w13.heap.size 26 #[.int .i64 1, .int .i64 1, .int .i64 2, .int .i64 2, .int .i64 0, .int .i64 0, .int .i64 0, .int .i64 0, .int .i64 0, .int .i64 1, .int .i64 1, .int .i64 2, .int .i64 2, .int .i64 0, .int .i64 0, .int .i64 0, .int .i64 0, .int .i64 0] := by rw [← hW]; exact Bk.new _ _ _
  rw [hW]
  clear hW
  refine (ycheck_at (some ⟨w13.heap.size, 0, none⟩) 2 2 [twn, twn] 10 _ (by decide) rfl (by decide) (rsy_two k14)).mono ?_
  first | rintro e w15 rfl hb15 | rintro e w15 ⟨rfl, hb15⟩
  have b1315 : Below w13.heap.size w13 w15 := hbW14.trans (hb15.mono hbW14.size)
  have b015 : Below w.heap.size w w15 := b013.trans (b1315.mono b013.size)
  have kt15 := kt13.below b1315 kt13.lt
  clear t0 t1 t2 t3 t4 t5 t6 t7 t8 kt13 b013 hbW14 k14 hb15 b1315
  have t0 := kt15.cell 0
  have t1 := kt15.cell 1
  have t2 := kt15.cell 2
  have t3 := kt15.cell 3
  have t4 := kt15.cell 4
  have t5 := kt15.cell 5
  have t6 := kt15.cell 6
  have t7 := kt15.cell 7
  have t8 := kt15.cell 8
  simp only [List.getElem?_toArray, List.getElem?_cons_zero, List.getElem?_cons_succ] at t0 t1 t2 t3 t4 t5 t6 t7 t8
  go_wp2_with fail
  obtain ⟨W16, hW⟩ : ∃ X, w15.alloc (.cells #[.int .i64 1, .int .i64 1, .int .i64 2, .int .i64 2, .int .i64 0, .int .i64 0, .int .i64 0, .int .i64 0, .int .i64 0] 26) = X := ⟨_, rfl⟩
  have hbW16 : Below w15.heap.size w15 W16 := by rw [← hW]; exact (Below.refl _ _).alloc (Nat.le_refl _) _
  have k16 : Bk W16 w15.heap.size 26 #[.int .i64 1, .int .i64 1, .int .i64 2, .int .i64 2, .int .i64 0, .int .i64 0, .int .i64 0, .int .i64 0, .int .i64 0] := by rw [← hW]; exact Bk.new _ _ _
  rw [hW]
  clear hW
  refine (ycheck_at (some ⟨w15.heap.size, 0, none⟩) 1 1 [twn] 0 _ (by decide) rfl (by decide) (rsy_one k16)).mono ?_
  first | rintro e w17 rfl hb17 | rintro e w17 ⟨rfl, hb17⟩
  have b017 : Below w.heap.size w w17 := (b015.trans (hbW16.mono b015.size)).trans (hb17.mono (Nat.le_trans b015.size hbW16.size))
  go_wp2_with fail
  go_ret
  exact ⟨rfl, b017⟩
end Go.Proofs.YtdbhijkfhcgojaaGreatDoor
