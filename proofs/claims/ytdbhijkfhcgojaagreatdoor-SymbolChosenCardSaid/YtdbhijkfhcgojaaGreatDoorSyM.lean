/-
  Symbols: the laws SymbolChecks and SymbolFits.
-/
import Derived.Test.YtdbhijkfhcgojaaGreatDoorSyL
set_option linter.unusedVariables false
set_option linter.unusedSimpArgs false
namespace Go.Proofs.YtdbhijkfhcgojaaGreatDoor
open Go.RowKit

theorem ryfind_at (A : Option Addr) (c n : Nat) (ss : List Sym) (k cl : Int) (s : Sym) (r : Bool) (w : World) (hr : ((Sy.find ss k cl).getD Sym.zero, (Sy.find ss k cl).isSome) = (s, r)) (hn : ss.length = n) (hx : n ≤ 1000000000000) (hA : RSy w A ss) :
    Calls Tryz.prog 8 #[.slice A n c, .int .i64 k, .int .i64 cl] w fun e w' => e = .returned (.tuple #[.agg #[.int .i64 s.kind, .int .i64 s.cls, .int .i64 s.w, .int .i64 s.h, .int .i64 s.l, .int .i64 s.i0, .int .i64 s.i1, .int .i64 s.i2, .int .i64 s.i3], .bool r]) ∧ Below w.heap.size w w' := by
  injection hr with h1 h2
  subst h1
  subst h2
  exact ryfind_any A c n ss k cl w hn hx hA
theorem rycheck_at (A : Option Addr) (c n : Nat) (ss : List Sym) (r : Int) (w : World) (hr : Sy.check ss = r) (hn : ss.length = n) (hx : n ≤ 1000000000000) (hA : RSy w A ss) :
    Calls Tryz.prog 10 #[.slice A n c] w fun e w' => e = .returned (.int .i64 r) ∧ Below w.heap.size w w' := by
  subst hr; exact rycheck_any A c n ss w hn hx hA

set_option maxRecDepth 4000 in
set_option maxHeartbeats 16000000 in
theorem law_sychecks (A : Option Addr) (c n : Nat) (ss : List Sym) (k cl : Int) (w : World) (hn : ss.length = n) (hA : RSy w A ss) :
    Calls Tryz.prog 3 #[.slice A n c, .int .i64 k, .int .i64 cl] w fun e w' => e = .returned (.bool true) ∧ Below w.heap.size w w' := by
  by_cases h100 : (n : Int) ≤ 100
  rotate_left
  · have h101 : (100 : Int) < n := by omega
    go_enter Tryz.func3, Tryz.ntmps3
    go_wp2_with fail
    refine (lyawake_any _).mono ?_
    first | rintro e w1 rfl hb1 | rintro e w1 ⟨rfl, hb1⟩
    go_wp2_with fail
    go_ret
    exact ⟨rfl, hb1⟩
  obtain ⟨⟨s, r⟩, hsr⟩ : ∃ sr : Sym × Bool, ((Sy.find ss k cl).getD Sym.zero, (Sy.find ss k cl).isSome) = sr := ⟨_, rfl⟩
  obtain ⟨kc, hkc⟩ : ∃ kc, Sy.check ss = kc := ⟨_, rfl⟩
  have HSR := Lib.hid hsr
  have HKC := Lib.hid hkc
  have HN := Lib.hid hn
  clear hsr hkc hn
  go_enter Tryz.func3, Tryz.ntmps3
  go_wp2_with fail
  refine (yfind_at A c n ss k cl s r _ HSR.out HN.out (by omega) hA).mono ?_
  first | rintro e w1 rfl hb1 | rintro e w1 ⟨rfl, hb1⟩
  go_upto_region 4 with fail
  obtain ⟨W2, hW⟩ : ∃ X, w1.alloc (.cells #[.int .i64 s.kind, .int .i64 s.cls, .int .i64 s.w, .int .i64 s.h, .int .i64 s.l, .int .i64 s.i0, .int .i64 s.i1, .int .i64 s.i2, .int .i64 s.i3] 26) = X := ⟨_, rfl⟩
  have hbW2 : Below w1.heap.size w1 W2 := by rw [← hW]; exact (Below.refl _ _).alloc (Nat.le_refl _) _
  have k2 : Bk W2 w1.heap.size 26 #[.int .i64 s.kind, .int .i64 s.cls, .int .i64 s.w, .int .i64 s.h, .int .i64 s.l, .int .i64 s.i0, .int .i64 s.i1, .int .i64 s.i2, .int .i64 s.i3] := by rw [← hW]; exact Bk.new _ _ _
  rw [hW]
  clear hW
  have b02 : Below w.heap.size w W2 := hb1.trans (hbW2.mono hb1.size)
  clear hb1 hbW2
  go_wp2_with fail
  refine (ryfind_at A c n ss k cl s r _ HSR.out HN.out (by omega) (hA.below b02)).mono ?_
  first | rintro e w3 rfl hb3 | rintro e w3 ⟨rfl, hb3⟩
  go_upto_region 5 with fail
  have b03 : Below w.heap.size w w3 := b02.trans (hb3.mono b02.size)
  have k3 := k2.below hb3 k2.lt
  obtain ⟨W4, hW⟩ : ∃ X, w3.alloc (.cells #[.int .i64 s.kind, .int .i64 s.cls, .int .i64 s.w, .int .i64 s.h, .int .i64 s.l, .int .i64 s.i0, .int .i64 s.i1, .int .i64 s.i2, .int .i64 s.i3] 26) = X := ⟨_, rfl⟩
  have hbW4 : Below w3.heap.size w3 W4 := by rw [← hW]; exact (Below.refl _ _).alloc (Nat.le_refl _) _
  have k4 : Bk W4 w3.heap.size 26 #[.int .i64 s.kind, .int .i64 s.cls, .int .i64 s.w, .int .i64 s.h, .int .i64 s.l, .int .i64 s.i0, .int .i64 s.i1, .int .i64 s.i2, .int .i64 s.i3] := by rw [← hW]; exact Bk.new _ _ _
  rw [hW]
  clear hW
  have b04 : Below w.heap.size w W4 := b03.trans (hbW4.mono b03.size)
  have k34 := k3.below hbW4 k3.lt
  clear b02 b03 hb3 hbW4 k2 k3
  go_wp2_with fail
  refine (lyawake_any _).mono ?_
  first | rintro e w5 rfl hb5 | rintro e w5 ⟨rfl, hb5⟩
  have b05 : Below w.heap.size w w5 := b04.trans (hb5.mono b04.size)
  have k35 := k34.below hb5 k34.lt
  have k45 := k4.below hb5 k4.lt
  clear b04 hb5 k34 k4
  go_wp2_with fail
  refine (ycheck_at A c n ss kc _ HKC.out HN.out (by omega) (hA.below b05)).mono ?_
  first | rintro e w6 rfl hb6 | rintro e w6 ⟨rfl, hb6⟩
  have b06 : Below w.heap.size w w6 := b05.trans (hb6.mono b05.size)
  have k36 := k35.below hb6 k35.lt
  have k46 := k45.below hb6 k45.lt
  clear b05 hb6 k35 k45
  go_wp2_with fail
  refine (rycheck_at A c n ss kc _ HKC.out HN.out (by omega) (hA.below b06)).mono ?_
  first | rintro e w7 rfl hb7 | rintro e w7 ⟨rfl, hb7⟩
  have b07 : Below w.heap.size w w7 := b06.trans (hb7.mono b06.size)
  have k37 := k36.below hb7 k36.lt
  have k47 := k46.below hb7 k46.lt
  clear b06 hb7 k36 k46
  have t0 := k37.cell 0
  have t1 := k37.cell 1
  have t2 := k37.cell 2
  have t3 := k37.cell 3
  have t4 := k37.cell 4
  have t5 := k37.cell 5
  have t6 := k37.cell 6
  have t7 := k37.cell 7
  have t8 := k37.cell 8
  simp only [List.getElem?_toArray, List.getElem?_cons_zero, List.getElem?_cons_succ] at t0 t1 t2 t3 t4 t5 t6 t7 t8
  have x0 := k47.cell 0
  have x1 := k47.cell 1
  have x2 := k47.cell 2
  have x3 := k47.cell 3
  have x4 := k47.cell 4
  have x5 := k47.cell 5
  have x6 := k47.cell 6
  have x7 := k47.cell 7
  have x8 := k47.cell 8
  simp only [List.getElem?_toArray, List.getElem?_cons_zero, List.getElem?_cons_succ] at x0 x1 x2 x3 x4 x5 x6 x7 x8
  have hik := inks_self s.i0 s.i1 s.i2 s.i3
  go_wp2_with fail
  go_ret
  exact ⟨ret_bool (by simp), b07⟩

theorem ybox_as (s : Sym) (x y : Int) (b : Int × Int × Int × Int) (w : World) (h : Sy.box s x y = b) : Calls Tryz.prog 11 #[.agg #[.int .i64 s.kind, .int .i64 s.cls, .int .i64 s.w, .int .i64 s.h, .int .i64 s.l, .int .i64 s.i0, .int .i64 s.i1, .int .i64 s.i2, .int .i64 s.i3], .agg #[.int .i64 x, .int .i64 y]] w fun e w' => e = .returned (.agg #[.int .i64 b.1, .int .i64 b.2.1, .int .i64 b.2.2.1, .int .i64 b.2.2.2]) ∧ Below w.heap.size w w' := by
  subst h; exact ybox_any s x y w
theorem rybox_as (s : Sym) (x y : Int) (b : Int × Int × Int × Int) (w : World) (h : Sy.box s x y = b) : Calls Tryz.prog 12 #[.agg #[.int .i64 s.kind, .int .i64 s.cls, .int .i64 s.w, .int .i64 s.h, .int .i64 s.l, .int .i64 s.i0, .int .i64 s.i1, .int .i64 s.i2, .int .i64 s.i3], .agg #[.int .i64 x, .int .i64 y]] w fun e w' => e = .returned (.agg #[.int .i64 b.1, .int .i64 b.2.1, .int .i64 b.2.2.1, .int .i64 b.2.2.2]) ∧ Below w.heap.size w w' := by
  subst h; exact rybox_any s x y w
/-- What is behind the first test of SymbolFits. -/
def FitRest (s : Sym) (x y b0 b1 b2 b3 : Int) : Prop := (Sy.fit s x y ∧ Sy.inb (b0, b1, b2, b3) x y ∧ b2 - b0 = s.w ∧ b3 - b1 = s.h ∧ (-1048640 ≤ b0 ∧ b0 ≤ 1048640) ∧ (-1048640 ≤ b1 ∧ b1 ≤ 1048640) ∧ (-1048640 ≤ b2 ∧ b2 ≤ 1048640) ∧ (-1048640 ≤ b3 ∧ b3 ≤ 1048640)) ∨ (¬ Sy.fit s x y ∧ b0 = 0 ∧ b1 = 0 ∧ b2 = 0 ∧ b3 = 0)
theorem fit_rest (s : Sym) (x y b0 b1 b2 b3 : Int) (h : Sy.box s x y = (b0, b1, b2, b3)) : FitRest s x y b0 b1 b2 b3 := by
  unfold Sy.box at h
  split at h
  · rename_i hf
    refine Or.inl ⟨hf, ?_⟩
    unfold Sy.fit at hf
    simp only [Prod.mk.injEq] at h
    unfold Sy.inb
    dsimp only
    omega
  · rename_i hf
    simp only [Prod.mk.injEq] at h
    exact Or.inr ⟨hf, h.1.symm, h.2.1.symm, h.2.2.1.symm, h.2.2.2.symm⟩

set_option maxRecDepth 4000 in
set_option maxHeartbeats 16000000 in
theorem law_syfits (s : Sym) (x y : Int) (w : World) :
    Calls Tryz.prog 4 #[symV s, ptV x y] w fun e w' => e = .returned (.bool true) ∧ Below w.heap.size w w' := by
  obtain ⟨⟨b0, b1, b2, b3⟩, hb⟩ : ∃ b : Int × Int × Int × Int, Sy.box s x y = b := ⟨_, rfl⟩
  have HB := Lib.hid hb
  have HF := Lib.hid (fit_rest s x y b0 b1 b2 b3 hb)
  clear hb
  unfold symV ptV
  go_enter Tryz.func4, Tryz.ntmps4
  go_wp2_with fail
  obtain ⟨W1, hW⟩ : ∃ X, (w.alloc (.cells #[.int .i64 s.kind, .int .i64 s.cls, .int .i64 s.w, .int .i64 s.h, .int .i64 s.l, .int .i64 s.i0, .int .i64 s.i1, .int .i64 s.i2, .int .i64 s.i3] 26)).alloc (.cells #[.int .i64 x, .int .i64 y] 33) = X := ⟨_, rfl⟩
  have b01 : Below w.heap.size w W1 := by rw [← hW]; exact ((Below.refl _ _).alloc (Nat.le_refl _) _).alloc (by simp) _
  have kS : Bk W1 w.heap.size 26 #[.int .i64 s.kind, .int .i64 s.cls, .int .i64 s.w, .int .i64 s.h, .int .i64 s.l, .int .i64 s.i0, .int .i64 s.i1, .int .i64 s.i2, .int .i64 s.i3] := by rw [← hW]; exact (Bk.new _ _ _).alloc _
  have kP : Bk W1 (w.heap.size + 1) 33 #[.int .i64 x, .int .i64 y] := by rw [← hW]; exact Bk.newAt (by simp) _ _
  rw [hW]
  clear hW
  refine (ybox_as s x y _ _ HB.out).mono ?_
  first | rintro e w1 rfl hb1 | rintro e w1 ⟨rfl, hb1⟩
  have b02 : Below w.heap.size w w1 := b01.trans (hb1.mono b01.size)
  have kS1 := kS.below hb1 kS.lt
  have kP1 := kP.below hb1 kP.lt
  clear kS kP b01 hb1
  go_upto_region 2 with fail
  obtain ⟨W2, hW⟩ : ∃ X, w1.alloc (.cells #[.int .i64 b0, .int .i64 b1, .int .i64 b2, .int .i64 b3] 35) = X := ⟨_, rfl⟩
  have hbW2 : Below w1.heap.size w1 W2 := by rw [← hW]; exact (Below.refl _ _).alloc (Nat.le_refl _) _
  have kB : Bk W2 w1.heap.size 35 #[.int .i64 b0, .int .i64 b1, .int .i64 b2, .int .i64 b3] := by rw [← hW]; exact Bk.new _ _ _
  rw [hW]
  clear hW
  have b03 : Below w.heap.size w W2 := b02.trans (hbW2.mono b02.size)
  have kS2 := kS1.below hbW2 kS1.lt
  have kP2 := kP1.below hbW2 kP1.lt
  clear kS1 kP1 hbW2 b02
  have t0 := kS2.cell 0
  have t1 := kS2.cell 1
  have t2 := kS2.cell 2
  have t3 := kS2.cell 3
  have t4 := kS2.cell 4
  have t5 := kS2.cell 5
  have t6 := kS2.cell 6
  have t7 := kS2.cell 7
  have t8 := kS2.cell 8
  simp only [List.getElem?_toArray, List.getElem?_cons_zero, List.getElem?_cons_succ] at t0 t1 t2 t3 t4 t5 t6 t7 t8
  have p0 := kP2.cell 0
  have p1 := kP2.cell 1
  simp only [List.getElem?_toArray, List.getElem?_cons_zero, List.getElem?_cons_succ] at p0 p1
  have q0 := kB.cell 0
  have q1 := kB.cell 1
  have q2 := kB.cell 2
  have q3 := kB.cell 3
  simp only [List.getElem?_toArray, List.getElem?_cons_zero, List.getElem?_cons_succ] at q0 q1 q2 q3
  have z1 := kS2.lt
  have z2 := kP2.lt
  have z3 := kB.lt
  have HKP : Hid (∀ X, Below W2.heap.size W2 X → X.cell? ⟨w.heap.size, 0, none⟩ = some (.int .i64 s.kind) ∧ X.cell? ⟨w.heap.size, 1, none⟩ = some (.int .i64 s.cls) ∧ X.cell? ⟨w.heap.size, 2, none⟩ = some (.int .i64 s.w) ∧ X.cell? ⟨w.heap.size, 3, none⟩ = some (.int .i64 s.h) ∧ X.cell? ⟨w.heap.size, 4, none⟩ = some (.int .i64 s.l) ∧ X.cell? ⟨w.heap.size, 5, none⟩ = some (.int .i64 s.i0) ∧ X.cell? ⟨w.heap.size, 6, none⟩ = some (.int .i64 s.i1) ∧ X.cell? ⟨w.heap.size, 7, none⟩ = some (.int .i64 s.i2) ∧ X.cell? ⟨w.heap.size, 8, none⟩ = some (.int .i64 s.i3) ∧ X.cell? ⟨w.heap.size + 1, 0, none⟩ = some (.int .i64 x) ∧ X.cell? ⟨w.heap.size + 1, 1, none⟩ = some (.int .i64 y) ∧ X.cell? ⟨w1.heap.size, 0, none⟩ = some (.int .i64 b0) ∧ X.cell? ⟨w1.heap.size, 1, none⟩ = some (.int .i64 b1) ∧ X.cell? ⟨w1.heap.size, 2, none⟩ = some (.int .i64 b2) ∧ X.cell? ⟨w1.heap.size, 3, none⟩ = some (.int .i64 b3)) :=
    Lib.hid (fun X hX => ⟨(hX.cell (p := ⟨w.heap.size, 0, none⟩) z1).trans t0, (hX.cell (p := ⟨w.heap.size, 1, none⟩) z1).trans t1, (hX.cell (p := ⟨w.heap.size, 2, none⟩) z1).trans t2, (hX.cell (p := ⟨w.heap.size, 3, none⟩) z1).trans t3, (hX.cell (p := ⟨w.heap.size, 4, none⟩) z1).trans t4, (hX.cell (p := ⟨w.heap.size, 5, none⟩) z1).trans t5, (hX.cell (p := ⟨w.heap.size, 6, none⟩) z1).trans t6, (hX.cell (p := ⟨w.heap.size, 7, none⟩) z1).trans t7, (hX.cell (p := ⟨w.heap.size, 8, none⟩) z1).trans t8, (hX.cell (p := ⟨w.heap.size + 1, 0, none⟩) z2).trans p0, (hX.cell (p := ⟨w.heap.size + 1, 1, none⟩) z2).trans p1, (hX.cell (p := ⟨w1.heap.size, 0, none⟩) z3).trans q0, (hX.cell (p := ⟨w1.heap.size, 1, none⟩) z3).trans q1, (hX.cell (p := ⟨w1.heap.size, 2, none⟩) z3).trans q2, (hX.cell (p := ⟨w1.heap.size, 3, none⟩) z3).trans q3⟩)
  go_cut [13] (fun v wx => v = .bool false ∧ Below W2.heap.size W2 wx)
  case first =>
    go_region_held3 (fun w' => w'.cell? ⟨w.heap.size, 0, none⟩ = some (.int .i64 s.kind) ∧ w'.cell? ⟨w.heap.size, 1, none⟩ = some (.int .i64 s.cls) ∧ w'.cell? ⟨w.heap.size, 2, none⟩ = some (.int .i64 s.w) ∧ w'.cell? ⟨w.heap.size, 3, none⟩ = some (.int .i64 s.h) ∧ w'.cell? ⟨w.heap.size, 4, none⟩ = some (.int .i64 s.l) ∧ w'.cell? ⟨w.heap.size, 5, none⟩ = some (.int .i64 s.i0) ∧ w'.cell? ⟨w.heap.size, 6, none⟩ = some (.int .i64 s.i1) ∧ w'.cell? ⟨w.heap.size, 7, none⟩ = some (.int .i64 s.i2) ∧ w'.cell? ⟨w.heap.size, 8, none⟩ = some (.int .i64 s.i3) ∧ w'.cell? ⟨w.heap.size + 1, 0, none⟩ = some (.int .i64 x) ∧ w'.cell? ⟨w.heap.size + 1, 1, none⟩ = some (.int .i64 y) ∧ w'.cell? ⟨w1.heap.size, 0, none⟩ = some (.int .i64 b0) ∧ w'.cell? ⟨w1.heap.size, 1, none⟩ = some (.int .i64 b1) ∧ w'.cell? ⟨w1.heap.size, 2, none⟩ = some (.int .i64 b2) ∧ w'.cell? ⟨w1.heap.size, 3, none⟩ = some (.int .i64 b3))
      ((first | exact HKP.out _ (by go_grown) | exact HKP.out _ hb7))
      (first | (go_at_call 12; refine (rybox_as s x y _ _ HB.out).mono ?_; first | rintro e w6 rfl hb6 | rintro e w6 ⟨rfl, hb6⟩; have hb7 : Below W2.heap.size W2 w6 := Below.trans (by go_grown) (hb6.mono (by simp))))
    all_goals (
      go_wp2_with fail
      go_meet
      case rel => exact ⟨rfl, hb7⟩)
  case rest =>
    obtain ⟨rfl, hbc⟩ := hcut
    have b0c : Below w.heap.size w wc := b03.trans (hbc.mono b03.size)
    have kSc := kS2.below hbc z1
    have kPc := kP2.below hbc z2
    have kBc := kB.below hbc z3
    clear t0 t1 t2 t3 t4 t5 t6 t7 t8 p0 p1 q0 q1 q2 q3 HKP kS2 kP2 kB b03 hbc z1 z2 z3
    have t2 : wc.cell? ⟨w.heap.size, 2, none⟩ = some (.int .i64 s.w) := kSc.cell 2
    have t3 : wc.cell? ⟨w.heap.size, 3, none⟩ = some (.int .i64 s.h) := kSc.cell 3
    have p0 : wc.cell? ⟨w.heap.size + 1, 0, none⟩ = some (.int .i64 x) := kPc.cell 0
    have p1 : wc.cell? ⟨w.heap.size + 1, 1, none⟩ = some (.int .i64 y) := kPc.cell 1
    by_cases gw1 : 0 ≤ s.w
    rotate_left
    · obtain ⟨-, rfl, rfl, rfl, rfl⟩ : ¬ Sy.fit s x y ∧ b0 = 0 ∧ b1 = 0 ∧ b2 = 0 ∧ b3 = 0 := HF.out.resolve_left (fun h => by have := h.1; unfold Sy.fit at this; omega)
      clear HF HB
      go_wp2_with fail
      refine (lyawake_any _).mono ?_
      first | rintro e w8 rfl hb8 | rintro e w8 ⟨rfl, hb8⟩
      have b08 : Below w.heap.size w w8 := b0c.trans (hb8.mono b0c.size)
      have kB8 := kBc.below hb8 kBc.lt
      clear t2 t3 p0 p1
      have q0 := kB8.cell 0
      have q1 := kB8.cell 1
      have q2 := kB8.cell 2
      have q3 := kB8.cell 3
      simp only [List.getElem?_toArray, List.getElem?_cons_zero, List.getElem?_cons_succ] at q0 q1 q2 q3
      go_wp2_with fail
      go_ret
      exact ⟨rfl, b08⟩
    by_cases gw2 : s.w ≤ 64
    rotate_left
    · obtain ⟨-, rfl, rfl, rfl, rfl⟩ : ¬ Sy.fit s x y ∧ b0 = 0 ∧ b1 = 0 ∧ b2 = 0 ∧ b3 = 0 := HF.out.resolve_left (fun h => by have := h.1; unfold Sy.fit at this; omega)
      clear HF HB
      go_wp2_with fail
      refine (lyawake_any _).mono ?_
      first | rintro e w8 rfl hb8 | rintro e w8 ⟨rfl, hb8⟩
      have b08 : Below w.heap.size w w8 := b0c.trans (hb8.mono b0c.size)
      have kB8 := kBc.below hb8 kBc.lt
      clear t2 t3 p0 p1
      have q0 := kB8.cell 0
      have q1 := kB8.cell 1
      have q2 := kB8.cell 2
      have q3 := kB8.cell 3
      simp only [List.getElem?_toArray, List.getElem?_cons_zero, List.getElem?_cons_succ] at q0 q1 q2 q3
      go_wp2_with fail
      go_ret
      exact ⟨rfl, b08⟩
    by_cases gh1 : 0 ≤ s.h
    rotate_left
    · obtain ⟨-, rfl, rfl, rfl, rfl⟩ : ¬ Sy.fit s x y ∧ b0 = 0 ∧ b1 = 0 ∧ b2 = 0 ∧ b3 = 0 := HF.out.resolve_left (fun h => by have := h.1; unfold Sy.fit at this; omega)
      clear HF HB
      go_wp2_with fail
      refine (lyawake_any _).mono ?_
      first | rintro e w8 rfl hb8 | rintro e w8 ⟨rfl, hb8⟩
      have b08 : Below w.heap.size w w8 := b0c.trans (hb8.mono b0c.size)
      have kB8 := kBc.below hb8 kBc.lt
      clear t2 t3 p0 p1
      have q0 := kB8.cell 0
      have q1 := kB8.cell 1
      have q2 := kB8.cell 2
      have q3 := kB8.cell 3
      simp only [List.getElem?_toArray, List.getElem?_cons_zero, List.getElem?_cons_succ] at q0 q1 q2 q3
      go_wp2_with fail
      go_ret
      exact ⟨rfl, b08⟩
    by_cases gh2 : s.h ≤ 64
    rotate_left
    · obtain ⟨-, rfl, rfl, rfl, rfl⟩ : ¬ Sy.fit s x y ∧ b0 = 0 ∧ b1 = 0 ∧ b2 = 0 ∧ b3 = 0 := HF.out.resolve_left (fun h => by have := h.1; unfold Sy.fit at this; omega)
      clear HF HB
      go_wp2_with fail
      refine (lyawake_any _).mono ?_
      first | rintro e w8 rfl hb8 | rintro e w8 ⟨rfl, hb8⟩
      have b08 : Below w.heap.size w w8 := b0c.trans (hb8.mono b0c.size)
      have kB8 := kBc.below hb8 kBc.lt
      clear t2 t3 p0 p1
      have q0 := kB8.cell 0
      have q1 := kB8.cell 1
      have q2 := kB8.cell 2
      have q3 := kB8.cell 3
      simp only [List.getElem?_toArray, List.getElem?_cons_zero, List.getElem?_cons_succ] at q0 q1 q2 q3
      go_wp2_with fail
      go_ret
      exact ⟨rfl, b08⟩
    by_cases gx1 : -1048576 ≤ x
    rotate_left
    · obtain ⟨-, rfl, rfl, rfl, rfl⟩ : ¬ Sy.fit s x y ∧ b0 = 0 ∧ b1 = 0 ∧ b2 = 0 ∧ b3 = 0 := HF.out.resolve_left (fun h => by have := h.1; unfold Sy.fit at this; omega)
      clear HF HB
      go_wp2_with fail
      refine (lyawake_any _).mono ?_
      first | rintro e w8 rfl hb8 | rintro e w8 ⟨rfl, hb8⟩
      have b08 : Below w.heap.size w w8 := b0c.trans (hb8.mono b0c.size)
      have kB8 := kBc.below hb8 kBc.lt
      clear t2 t3 p0 p1
      have q0 := kB8.cell 0
      have q1 := kB8.cell 1
      have q2 := kB8.cell 2
      have q3 := kB8.cell 3
      simp only [List.getElem?_toArray, List.getElem?_cons_zero, List.getElem?_cons_succ] at q0 q1 q2 q3
      go_wp2_with fail
      go_ret
      exact ⟨rfl, b08⟩
    by_cases gx2 : x ≤ 1048576
    rotate_left
    · obtain ⟨-, rfl, rfl, rfl, rfl⟩ : ¬ Sy.fit s x y ∧ b0 = 0 ∧ b1 = 0 ∧ b2 = 0 ∧ b3 = 0 := HF.out.resolve_left (fun h => by have := h.1; unfold Sy.fit at this; omega)
      clear HF HB
      go_wp2_with fail
      refine (lyawake_any _).mono ?_
      first | rintro e w8 rfl hb8 | rintro e w8 ⟨rfl, hb8⟩
      have b08 : Below w.heap.size w w8 := b0c.trans (hb8.mono b0c.size)
      have kB8 := kBc.below hb8 kBc.lt
      clear t2 t3 p0 p1
      have q0 := kB8.cell 0
      have q1 := kB8.cell 1
      have q2 := kB8.cell 2
      have q3 := kB8.cell 3
      simp only [List.getElem?_toArray, List.getElem?_cons_zero, List.getElem?_cons_succ] at q0 q1 q2 q3
      go_wp2_with fail
      go_ret
      exact ⟨rfl, b08⟩
    by_cases gy1 : -1048576 ≤ y
    rotate_left
    · obtain ⟨-, rfl, rfl, rfl, rfl⟩ : ¬ Sy.fit s x y ∧ b0 = 0 ∧ b1 = 0 ∧ b2 = 0 ∧ b3 = 0 := HF.out.resolve_left (fun h => by have := h.1; unfold Sy.fit at this; omega)
      clear HF HB
      go_wp2_with fail
      refine (lyawake_any _).mono ?_
      first | rintro e w8 rfl hb8 | rintro e w8 ⟨rfl, hb8⟩
      have b08 : Below w.heap.size w w8 := b0c.trans (hb8.mono b0c.size)
      have kB8 := kBc.below hb8 kBc.lt
      clear t2 t3 p0 p1
      have q0 := kB8.cell 0
      have q1 := kB8.cell 1
      have q2 := kB8.cell 2
      have q3 := kB8.cell 3
      simp only [List.getElem?_toArray, List.getElem?_cons_zero, List.getElem?_cons_succ] at q0 q1 q2 q3
      go_wp2_with fail
      go_ret
      exact ⟨rfl, b08⟩
    by_cases gy2 : y ≤ 1048576
    rotate_left
    · obtain ⟨-, rfl, rfl, rfl, rfl⟩ : ¬ Sy.fit s x y ∧ b0 = 0 ∧ b1 = 0 ∧ b2 = 0 ∧ b3 = 0 := HF.out.resolve_left (fun h => by have := h.1; unfold Sy.fit at this; omega)
      clear HF HB
      go_wp2_with fail
      refine (lyawake_any _).mono ?_
      first | rintro e w8 rfl hb8 | rintro e w8 ⟨rfl, hb8⟩
      have b08 : Below w.heap.size w w8 := b0c.trans (hb8.mono b0c.size)
      have kB8 := kBc.below hb8 kBc.lt
      clear t2 t3 p0 p1
      have q0 := kB8.cell 0
      have q1 := kB8.cell 1
      have q2 := kB8.cell 2
      have q3 := kB8.cell 3
      simp only [List.getElem?_toArray, List.getElem?_cons_zero, List.getElem?_cons_succ] at q0 q1 q2 q3
      go_wp2_with fail
      go_ret
      exact ⟨rfl, b08⟩
    obtain ⟨-, hin, hw, hh, ⟨c1, c2⟩, ⟨c3, c4⟩, ⟨c5, c6⟩, c7, c8⟩ := HF.out.resolve_right (fun h => h.1 (by unfold Sy.fit; omega))
    have hwb : (b2 - b0 == s.w) = true := by simp [hw]
    have hhb : (b3 - b1 == s.h) = true := by simp [hh]
    have HIN := Lib.hid hin
    clear hw hh hin HF HB
    go_wp2_with fail
    refine (lyawake_any _).mono ?_
    first | rintro e w8 rfl hb8 | rintro e w8 ⟨rfl, hb8⟩
    have b08 : Below w.heap.size w w8 := b0c.trans (hb8.mono b0c.size)
    have kB8 := kBc.below hb8 kBc.lt
    have kP8 := kPc.below hb8 kPc.lt
    have kS8 := kSc.below hb8 kSc.lt
    clear t2 t3 p0 p1 kBc kPc kSc
    have q0 := kB8.cell 0
    have q1 := kB8.cell 1
    have q2 := kB8.cell 2
    have q3 := kB8.cell 3
    simp only [List.getElem?_toArray, List.getElem?_cons_zero, List.getElem?_cons_succ] at q0 q1 q2 q3
    have p0 : w8.cell? ⟨w.heap.size + 1, 0, none⟩ = some (.int .i64 x) := kP8.cell 0
    have p1 : w8.cell? ⟨w.heap.size + 1, 1, none⟩ = some (.int .i64 y) := kP8.cell 1
    go_wp2_with fail
    refine (in_at (b0, b1, b2, b3) x y true _ (decide_eq_true HIN.out)).mono ?_
    first | rintro e w9 rfl hb9 | rintro e w9 ⟨rfl, hb9⟩
    have b09 : Below w.heap.size w w9 := b08.trans (hb9.mono b08.size)
    have kB9 := kB8.below hb9 kB8.lt
    have kS9 := kS8.below hb9 kS8.lt
    clear q0 q1 q2 q3 p0 p1 kB8 kP8 kS8
    have q0 := kB9.cell 0
    have q1 := kB9.cell 1
    have q2 := kB9.cell 2
    have q3 := kB9.cell 3
    simp only [List.getElem?_toArray, List.getElem?_cons_zero, List.getElem?_cons_succ] at q0 q1 q2 q3
    have t2 : w9.cell? ⟨w.heap.size, 2, none⟩ = some (.int .i64 s.w) := kS9.cell 2
    have t3 : w9.cell? ⟨w.heap.size, 3, none⟩ = some (.int .i64 s.h) := kS9.cell 3
    go_wp2_with fail
    go_ret
    exact ⟨ret_bool (by first | rfl | simp [hwb, hhb]), b09⟩
end Go.Proofs.YtdbhijkfhcgojaaGreatDoor
