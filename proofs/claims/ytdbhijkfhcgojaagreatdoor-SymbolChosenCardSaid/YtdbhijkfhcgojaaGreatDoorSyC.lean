/-
  Symbols: Find of the program.
-/
import Derived.Test.YtdbhijkfhcgojaaGreatDoorSyB
import Derived.Deep.DeepCutAuto
set_option linter.unusedVariables false
set_option linter.unusedSimpArgs false
namespace Go.Proofs.YtdbhijkfhcgojaaGreatDoor
open Go.RowKit

def Sym.zero : Sym := ⟨0, 0, 0, 0, 0, 0, 0, 0, 0⟩
def sy (ss : List Sym) (i : Nat) : Sym := ss.getD i Sym.zero
theorem sy_eq {ss : List Sym} {i : Nat} (h : i < ss.length) : sy ss i = ss[i] := by simp [sy, h]
/-- The cells of the j-th symbol at off. -/
structure SymAt (w : World) (b o : Nat) (s : Sym) : Prop where
  c0 : w.cell? ⟨b, o, none⟩ = some (.int .i64 s.kind)
  c1 : w.cell? ⟨b, o + 1, none⟩ = some (.int .i64 s.cls)
  c2 : w.cell? ⟨b, o + 2, none⟩ = some (.int .i64 s.w)
  c3 : w.cell? ⟨b, o + 3, none⟩ = some (.int .i64 s.h)
  c4 : w.cell? ⟨b, o + 4, none⟩ = some (.int .i64 s.l)
  c5 : w.cell? ⟨b, o + 5, none⟩ = some (.int .i64 s.i0)
  c6 : w.cell? ⟨b, o + 6, none⟩ = some (.int .i64 s.i1)
  c7 : w.cell? ⟨b, o + 7, none⟩ = some (.int .i64 s.i2)
  c8 : w.cell? ⟨b, o + 8, none⟩ = some (.int .i64 s.i3)
theorem SymAt.below {w w' : World} {b o D : Nat} {s : Sym} (h : SymAt w b o s) (hb : Below D w w') (hD : b < D) : SymAt w' b o s :=
  ⟨(hb.cell (p := ⟨b, o, none⟩) hD).trans h.c0, (hb.cell (p := ⟨b, o + 1, none⟩) hD).trans h.c1, (hb.cell (p := ⟨b, o + 2, none⟩) hD).trans h.c2, (hb.cell (p := ⟨b, o + 3, none⟩) hD).trans h.c3, (hb.cell (p := ⟨b, o + 4, none⟩) hD).trans h.c4, (hb.cell (p := ⟨b, o + 5, none⟩) hD).trans h.c5, (hb.cell (p := ⟨b, o + 6, none⟩) hD).trans h.c6, (hb.cell (p := ⟨b, o + 7, none⟩) hD).trans h.c7, (hb.cell (p := ⟨b, o + 8, none⟩) hD).trans h.c8⟩
/-- The slice at A reads as the symbols ss. -/
def RSy (w : World) (A : Option Addr) (ss : List Sym) : Prop :=
  ∀ k, k < ss.length → ∃ b off, A = some ⟨b, off, none⟩ ∧ b < w.heap.size ∧ ∀ j, j < ss.length → SymAt w b (off + j * 9) (sy ss j)
theorem RSy.below {w w' : World} {A : Option Addr} {ss : List Sym} (h : RSy w A ss) (hb : Below w.heap.size w w') : RSy w' A ss := fun k hk => by
  obtain ⟨b, off, e, hl, hc⟩ := h k hk
  exact ⟨b, off, e, Nat.lt_of_lt_of_le hl hb.size, fun j hj => (hc j hj).below hb hl⟩
/-- The first symbol of a kind and a class. -/
def Sy.find (ss : List Sym) (k c : Int) : Option Sym := ss.find? fun s => s.kind == k && s.cls == c
theorem Sy.find_hit {ss : List Sym} {k c : Int} {i : Nat} (hi : i < ss.length) (h : (sy ss i).kind = k ∧ (sy ss i).cls = c) (hno : ∀ j, j < i → ¬ ((sy ss j).kind = k ∧ (sy ss j).cls = c)) : Sy.find ss k c = some (sy ss i) := by
  unfold Sy.find
  rw [List.find?_eq_some_iff_getElem]
  refine ⟨by simp [h.1, h.2], i, hi, (sy_eq hi).symm, fun j hj => ?_⟩
  have := hno j hj
  rw [sy_eq (by omega)] at this
  simp
  exact Classical.not_and_iff_not_or_not.1 this
theorem Sy.find_none {ss : List Sym} {k c : Int} (hno : ∀ j, j < ss.length → ¬ ((sy ss j).kind = k ∧ (sy ss j).cls = c)) : Sy.find ss k c = none := by
  unfold Sy.find
  rw [List.find?_eq_none]
  intro s hs
  obtain ⟨j, hj, rfl⟩ := List.mem_iff_getElem.1 hs
  have := hno j hj
  rw [sy_eq hj] at this
  rw [Bool.and_eq_true, beq_iff_eq, beq_iff_eq]
  exact this
/-- Nine stores into one block. -/
theorem Bk.setAt {w : World} {b : Nat} {t : TypeId} {cs : Array Value} (h : Bk w b t cs) (i : Nat) (u : Value) : Bk (w.setCell ⟨b, i, none⟩ u) b t (cs.setIfInBounds i u) := by
  unfold Bk at h ⊢
  simp [World.setCell, Array.getElem?_modify, h]
theorem Bk.set9 {w : World} {b : Nat} {t : TypeId} {a0 a1 a2 a3 a4 a5 a6 a7 a8 : Value} (h : Bk w b t #[a0, a1, a2, a3, a4, a5, a6, a7, a8]) (v0 v1 v2 v3 v4 v5 v6 v7 v8 : Value) : ∃ W, (((((((((w.setCell ⟨b, 0, none⟩ v0).setCell ⟨b, 1, none⟩ v1).setCell ⟨b, 2, none⟩ v2).setCell ⟨b, 3, none⟩ v3).setCell ⟨b, 4, none⟩ v4).setCell ⟨b, 5, none⟩ v5).setCell ⟨b, 6, none⟩ v6).setCell ⟨b, 7, none⟩ v7).setCell ⟨b, 8, none⟩ v8) = W ∧ Bk W b t #[v0, v1, v2, v3, v4, v5, v6, v7, v8] ∧ ∀ (B : Nat) (w0 : World), Below B w0 w → B ≤ b → Below B w0 W := by
  refine ⟨_, rfl, ?_, fun B w0 hb hB => ?_⟩
  · have h9 := ((((((((h.setAt 0 v0).setAt 1 v1).setAt 2 v2).setAt 3 v3).setAt 4 v4).setAt 5 v5).setAt 6 v6).setAt 7 v7).setAt 8 v8
    simp only [List.setIfInBounds_toArray, List.set_cons_zero, List.set_cons_succ] at h9
    exact h9
  · exact ((((((((hb.setCell hB v0).setCell hB v1).setCell hB v2).setCell hB v3).setCell hB v4).setCell hB v5).setCell hB v6).setCell hB v7).setCell hB v8
/-- A symbol and whether there is one. -/
def SymPost (o : Option Sym) (w : World) (e : Ending) (w' : World) : Prop := e = .returned (.tuple #[symV (o.getD Sym.zero), .bool o.isSome]) ∧ Below w.heap.size w w'

set_option maxHeartbeats 8000000 in
theorem yfind_any (A : Option Addr) (c n : Nat) (ss : List Sym) (k cl : Int) (w : World) (hn : ss.length = n) (hx : n ≤ 1000000000000) (hA : RSy w A ss) :
    Calls Tryz.prog 7 #[.slice A n c, .int .i64 k, .int .i64 cl] w (SymPost (Sy.find ss k cl) w) := by
  go_enter Tryz.func7, Tryz.ntmps7
  go_wp2_with fail
  obtain ⟨W1, hW⟩ : ∃ W, w.alloc (.cells #[.int .i64 0, .int .i64 0, .int .i64 0, .int .i64 0, .int .i64 0, .int .i64 0, .int .i64 0, .int .i64 0, .int .i64 0] 26) = W := ⟨_, rfl⟩
  have hz1 : w.heap.size + 1 ≤ W1.heap.size := by rw [← hW]; simp
  have hb1 : Below w.heap.size w W1 := by rw [← hW]; exact (Below.refl _ _).alloc (Nat.le_refl _) _
  have hk1 : Bk W1 w.heap.size 26 #[.int .i64 0, .int .i64 0, .int .i64 0, .int .i64 0, .int .i64 0, .int .i64 0, .int .i64 0, .int .i64 0, .int .i64 0] := by rw [← hW]; exact Bk.new _ _ _
  rw [hW]
  clear hW
  go_loopw [12] (fun iv wr => ∃ i : Nat, iv = .int .i64 i ∧ i ≤ n ∧ Hid (∀ j, j < i → ¬ ((sy ss j).kind = k ∧ (sy ss j).cls = cl)) ∧ Below W1.heap.size W1 wr) (fun iv _ => n - (intOf iv).toNat)
  case atStart => exact ⟨0, rfl, by omega, fun j hj => absurd hj (by omega), Below.refl _ _⟩
  case round =>
    obtain ⟨i, rfl, hi, hall, hbw⟩ := hrel
    have hzr := hbw.size
    have hb0r : Below w.heap.size w wr := hb1.trans (hbw.mono hb1.size)
    have hk2 := hk1.below hbw (by omega)
    have q0 := hk2.cell 0
    have q1 := hk2.cell 1
    have q2 := hk2.cell 2
    have q3 := hk2.cell 3
    have q4 := hk2.cell 4
    have q5 := hk2.cell 5
    have q6 := hk2.cell 6
    have q7 := hk2.cell 7
    have q8 := hk2.cell 8
    have f0 := hk2.frozen 0
    have f1 := hk2.frozen 1
    have f2 := hk2.frozen 2
    have f3 := hk2.frozen 3
    have f4 := hk2.frozen 4
    have f5 := hk2.frozen 5
    have f6 := hk2.frozen 6
    have f7 := hk2.frozen 7
    have f8 := hk2.frozen 8
    simp only [List.getElem?_toArray, List.getElem?_cons_zero, List.getElem?_cons_succ] at q0 q1 q2 q3 q4 q5 q6 q7 q8
    have hsz : w.heap.size < wr.heap.size := by omega
    have hne : w.heap.size ≠ wr.heap.size := by omega
    by_cases hlt : i < n
    · obtain ⟨b1, o1, rfl, hbb1, hc1⟩ := hA i (by omega)
      have hs := (hc1 i (by omega)).below hb0r hbb1
      obtain ⟨d0, d1, d2, d3, d4, d5, d6, d7, d8⟩ := hs
      clear hc1 hA
      by_cases hkk : (sy ss i).kind = k
      · have hkb : ((sy ss i).kind == k) = true := by simp [hkk]
        by_cases hcc : (sy ss i).cls = cl
        · have hcb : ((sy ss i).cls == cl) = true := by simp [hcc]
          have HF := Lib.hid (Sy.find_hit (k := k) (c := cl) (by omega : i < ss.length) ⟨hkk, hcc⟩ hall.out)
          clear hkk hcc
          go_upto_region 5 with fail
          obtain ⟨W2, hW2⟩ : ∃ W, wr.alloc (.cells #[.int .i64 (sy ss i).kind, .int .i64 (sy ss i).cls, .int .i64 (sy ss i).w, .int .i64 (sy ss i).h, .int .i64 (sy ss i).l, .int .i64 (sy ss i).i0, .int .i64 (sy ss i).i1, .int .i64 (sy ss i).i2, .int .i64 (sy ss i).i3] 26) = W := ⟨_, rfl⟩
          have hb2 : Below wr.heap.size wr W2 := by rw [← hW2]; exact (Below.refl _ _).alloc (Nat.le_refl _) _
          have hk3 : Bk W2 wr.heap.size 26 #[.int .i64 (sy ss i).kind, .int .i64 (sy ss i).cls, .int .i64 (sy ss i).w, .int .i64 (sy ss i).h, .int .i64 (sy ss i).l, .int .i64 (sy ss i).i0, .int .i64 (sy ss i).i1, .int .i64 (sy ss i).i2, .int .i64 (sy ss i).i3] := by rw [← hW2]; exact Bk.new _ _ _
          have hk4 := hk2.below hb2 hsz
          rw [hW2]
          clear hW2 q0 q1 q2 q3 q4 q5 q6 q7 q8 f0 f1 f2 f3 f4 f5 f6 f7 f8 d0 d1 d2 d3 d4 d5 d6 d7 d8
          have q0 := hk4.cell 0
          have q1 := hk4.cell 1
          have q2 := hk4.cell 2
          have q3 := hk4.cell 3
          have q4 := hk4.cell 4
          have q5 := hk4.cell 5
          have q6 := hk4.cell 6
          have q7 := hk4.cell 7
          have q8 := hk4.cell 8
          have f0 := hk4.frozen 0
          have f1 := hk4.frozen 1
          have f2 := hk4.frozen 2
          have f3 := hk4.frozen 3
          have f4 := hk4.frozen 4
          have f5 := hk4.frozen 5
          have f6 := hk4.frozen 6
          have f7 := hk4.frozen 7
          have f8 := hk4.frozen 8
          have r0 := hk3.cell 0
          have r1 := hk3.cell 1
          have r2 := hk3.cell 2
          have r3 := hk3.cell 3
          have r4 := hk3.cell 4
          have r5 := hk3.cell 5
          have r6 := hk3.cell 6
          have r7 := hk3.cell 7
          have r8 := hk3.cell 8
          simp only [List.getElem?_toArray, List.getElem?_cons_zero, List.getElem?_cons_succ] at q0 q1 q2 q3 q4 q5 q6 q7 q8 r0 r1 r2 r3 r4 r5 r6 r7 r8
          go_wp2_with fail
          obtain ⟨W3, hW3, hk5, hb3⟩ := hk4.set9 (.int .i64 (sy ss i).kind) (.int .i64 (sy ss i).cls) (.int .i64 (sy ss i).w) (.int .i64 (sy ss i).h) (.int .i64 (sy ss i).l) (.int .i64 (sy ss i).i0) (.int .i64 (sy ss i).i1) (.int .i64 (sy ss i).i2) (.int .i64 (sy ss i).i3)
          rw [hW3]
          clear hW3 q0 q1 q2 q3 q4 q5 q6 q7 q8 r0 r1 r2 r3 r4 r5 r6 r7 r8
          have q0 := hk5.cell 0
          have q1 := hk5.cell 1
          have q2 := hk5.cell 2
          have q3 := hk5.cell 3
          have q4 := hk5.cell 4
          have q5 := hk5.cell 5
          have q6 := hk5.cell 6
          have q7 := hk5.cell 7
          have q8 := hk5.cell 8
          simp only [List.getElem?_toArray, List.getElem?_cons_zero, List.getElem?_cons_succ] at q0 q1 q2 q3 q4 q5 q6 q7 q8
          have hb4 := hb3 w.heap.size w (hb0r.trans (hb2.mono hb0r.size)) (Nat.le_refl _)
          refine bodyPost_ret (v := .tuple #[symV (sy ss i), .bool true]) (by simp [results, Tryz.results7, go_sem, symV, q0, q1, q2, q3, q4, q5, q6, q7, q8]) rfl ?_
          exact ⟨by rw [HF.out]; rfl, hb4⟩
        · have hcb : ((sy ss i).cls == cl) = false := by simp [hcc]
          have HN := Lib.hid (fun h : (sy ss i).kind = k ∧ (sy ss i).cls = cl => hcc h.2)
          clear hkk hcc
          go_wp2_with fail
          go_roundw
          case rel => exact ⟨i + 1, by go_num, by omega, fun j hj => (Nat.lt_or_eq_of_le (Nat.le_of_lt_succ hj)).elim (hall.out j) (fun e => by rw [e]; exact HN.out), hbw.alloc hzr _⟩
          case measure => simp [intOf]; omega
      · have hkb : ((sy ss i).kind == k) = false := by simp [hkk]
        have HN := Lib.hid (fun h : (sy ss i).kind = k ∧ (sy ss i).cls = cl => hkk h.1)
        clear hkk
        go_wp2_with fail
        go_roundw
        case rel => exact ⟨i + 1, by go_num, by omega, fun j hj => (Nat.lt_or_eq_of_le (Nat.le_of_lt_succ hj)).elim (hall.out j) (fun e => by rw [e]; exact HN.out), hbw.alloc hzr _⟩
        case measure => simp [intOf]; omega
    · have HF := Lib.hid (Sy.find_none (k := k) (c := cl) (fun j hj => hall.out j (by omega)))
      go_wp2_with fail
      obtain ⟨W3, hW3, hk5, hb3⟩ := hk2.set9 (.int .i64 0) (.int .i64 0) (.int .i64 0) (.int .i64 0) (.int .i64 0) (.int .i64 0) (.int .i64 0) (.int .i64 0) (.int .i64 0)
      rw [hW3]
      clear hW3 q0 q1 q2 q3 q4 q5 q6 q7 q8
      have q0 := hk5.cell 0
      have q1 := hk5.cell 1
      have q2 := hk5.cell 2
      have q3 := hk5.cell 3
      have q4 := hk5.cell 4
      have q5 := hk5.cell 5
      have q6 := hk5.cell 6
      have q7 := hk5.cell 7
      have q8 := hk5.cell 8
      simp only [List.getElem?_toArray, List.getElem?_cons_zero, List.getElem?_cons_succ] at q0 q1 q2 q3 q4 q5 q6 q7 q8
      have hb4 := hb3 w.heap.size w hb0r (Nat.le_refl _)
      refine bodyPost_ret (v := .tuple #[symV Sym.zero, .bool false]) (by simp [results, Tryz.results7, go_sem, symV, Sym.zero, q0, q1, q2, q3, q4, q5, q6, q7, q8]) rfl ?_
      exact ⟨by rw [HF.out]; rfl, hb4⟩
end Go.Proofs.YtdbhijkfhcgojaaGreatDoor
