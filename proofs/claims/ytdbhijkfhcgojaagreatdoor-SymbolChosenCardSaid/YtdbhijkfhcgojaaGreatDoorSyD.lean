/-
  Symbols: Find of the reference.
-/
import Derived.Test.YtdbhijkfhcgojaaGreatDoorSyC
set_option linter.unusedVariables false
set_option linter.unusedSimpArgs false
namespace Go.Proofs.YtdbhijkfhcgojaaGreatDoor
open Go.RowKit

set_option maxHeartbeats 8000000 in
theorem ryfind_any (A : Option Addr) (c n : Nat) (ss : List Sym) (k cl : Int) (w : World) (hn : ss.length = n) (hx : n ≤ 1000000000000) (hA : RSy w A ss) :
    Calls Tryz.prog 8 #[.slice A n c, .int .i64 k, .int .i64 cl] w (SymPost (Sy.find ss k cl) w) := by
  go_enter Tryz.func8, Tryz.ntmps8
  go_wp2_with fail
  obtain ⟨W1, hW⟩ : ∃ W, w.alloc (.cells #[.int .i64 0, .int .i64 0, .int .i64 0, .int .i64 0, .int .i64 0, .int .i64 0, .int .i64 0, .int .i64 0, .int .i64 0] 26) = W := ⟨_, rfl⟩
  have hz1 : w.heap.size + 1 ≤ W1.heap.size := by rw [← hW]; simp
  have hb1 : Below w.heap.size w W1 := by rw [← hW]; exact (Below.refl _ _).alloc (Nat.le_refl _) _
  have hk1 : Bk W1 w.heap.size 26 #[.int .i64 0, .int .i64 0, .int .i64 0, .int .i64 0, .int .i64 0, .int .i64 0, .int .i64 0, .int .i64 0, .int .i64 0] := by rw [← hW]; exact Bk.new _ _ _
  rw [hW]
  clear hW
  go_loopw [8] (fun iv wr => ∃ i : Nat, iv = .int .i64 i ∧ i ≤ n ∧ Hid (∀ j, j < i → ¬ ((sy ss j).kind = k ∧ (sy ss j).cls = cl)) ∧ Below W1.heap.size W1 wr) (fun iv _ => n - (intOf iv).toNat)
  case atStart => exact ⟨0, rfl, by omega, fun j hj => absurd hj (by omega), Below.refl _ _⟩
  case round =>
    obtain ⟨i, rfl, hi, hall, hbw⟩ := hrel
    have hzr := hbw.size
    have hb0r : Below w.heap.size w wr := hb1.trans (hbw.mono hb1.size)
    have hk2 := hk1.below hbw (by omega)
    have q0 := hk2.cell 0
    have q1 := hk2.cell 1
    have q2 := hk2.cell 2
    have q3 := hk2.cell 3
    have q4 := hk2.cell 4
    have q5 := hk2.cell 5
    have q6 := hk2.cell 6
    have q7 := hk2.cell 7
    have q8 := hk2.cell 8
    have f0 := hk2.frozen 0
    have f1 := hk2.frozen 1
    have f2 := hk2.frozen 2
    have f3 := hk2.frozen 3
    have f4 := hk2.frozen 4
    have f5 := hk2.frozen 5
    have f6 := hk2.frozen 6
    have f7 := hk2.frozen 7
    have f8 := hk2.frozen 8
    simp only [List.getElem?_toArray, List.getElem?_cons_zero, List.getElem?_cons_succ] at q0 q1 q2 q3 q4 q5 q6 q7 q8
    have hsz : w.heap.size < wr.heap.size := by omega
    have hne : w.heap.size ≠ wr.heap.size := by omega
    by_cases hlt : i < n
    · obtain ⟨b1, o1, rfl, hbb1, hc1⟩ := hA i (by omega)
      have hs := (hc1 i (by omega)).below hb0r hbb1
      obtain ⟨d0, d1, d2, d3, d4, d5, d6, d7, d8⟩ := hs
      clear hc1 hA
      by_cases hkk : (sy ss i).kind = k
      · have hkb : ((sy ss i).kind == k) = true := by simp [hkk]
        by_cases hcc : (sy ss i).cls = cl
        · have hcb : ((sy ss i).cls == cl) = true := by simp [hcc]
          have HF := Lib.hid (Sy.find_hit (k := k) (c := cl) (by omega : i < ss.length) ⟨hkk, hcc⟩ hall.out)
          clear hkk hcc
          go_wp2_with fail
          obtain ⟨W3, hW3, hk5, hb3⟩ := hk2.set9 (.int .i64 (sy ss i).kind) (.int .i64 (sy ss i).cls) (.int .i64 (sy ss i).w) (.int .i64 (sy ss i).h) (.int .i64 (sy ss i).l) (.int .i64 (sy ss i).i0) (.int .i64 (sy ss i).i1) (.int .i64 (sy ss i).i2) (.int .i64 (sy ss i).i3)
          rw [hW3]
          clear hW3 q0 q1 q2 q3 q4 q5 q6 q7 q8
          have q0 := hk5.cell 0
          have q1 := hk5.cell 1
          have q2 := hk5.cell 2
          have q3 := hk5.cell 3
          have q4 := hk5.cell 4
          have q5 := hk5.cell 5
          have q6 := hk5.cell 6
          have q7 := hk5.cell 7
          have q8 := hk5.cell 8
          simp only [List.getElem?_toArray, List.getElem?_cons_zero, List.getElem?_cons_succ] at q0 q1 q2 q3 q4 q5 q6 q7 q8
          have hb4 := hb3 w.heap.size w hb0r (Nat.le_refl _)
          refine bodyPost_ret (v := .tuple #[symV (sy ss i), .bool true]) (by simp [results, Tryz.results8, go_sem, symV, q0, q1, q2, q3, q4, q5, q6, q7, q8]) rfl ?_
          exact ⟨by rw [HF.out]; rfl, hb4⟩
        · have hcb : ((sy ss i).cls == cl) = false := by simp [hcc]
          have HN := Lib.hid (fun h : (sy ss i).kind = k ∧ (sy ss i).cls = cl => hcc h.2)
          clear hkk hcc
          go_wp2_with fail
          go_roundw
          case rel => exact ⟨i + 1, by go_num, by omega, fun j hj => (Nat.lt_or_eq_of_le (Nat.le_of_lt_succ hj)).elim (hall.out j) (fun e => by rw [e]; exact HN.out), hbw⟩
          case measure => simp [intOf]; omega
      · have hkb : ((sy ss i).kind == k) = false := by simp [hkk]
        have HN := Lib.hid (fun h : (sy ss i).kind = k ∧ (sy ss i).cls = cl => hkk h.1)
        clear hkk
        go_wp2_with fail
        go_roundw
        case rel => exact ⟨i + 1, by go_num, by omega, fun j hj => (Nat.lt_or_eq_of_le (Nat.le_of_lt_succ hj)).elim (hall.out j) (fun e => by rw [e]; exact HN.out), hbw⟩
        case measure => simp [intOf]; omega
    · have HF := Lib.hid (Sy.find_none (k := k) (c := cl) (fun j hj => hall.out j (by omega)))
      go_wp2_with fail
      obtain ⟨W3, hW3, hk5, hb3⟩ := hk2.set9 (.int .i64 0) (.int .i64 0) (.int .i64 0) (.int .i64 0) (.int .i64 0) (.int .i64 0) (.int .i64 0) (.int .i64 0) (.int .i64 0)
      rw [hW3]
      clear hW3 q0 q1 q2 q3 q4 q5 q6 q7 q8
      have q0 := hk5.cell 0
      have q1 := hk5.cell 1
      have q2 := hk5.cell 2
      have q3 := hk5.cell 3
      have q4 := hk5.cell 4
      have q5 := hk5.cell 5
      have q6 := hk5.cell 6
      have q7 := hk5.cell 7
      have q8 := hk5.cell 8
      simp only [List.getElem?_toArray, List.getElem?_cons_zero, List.getElem?_cons_succ] at q0 q1 q2 q3 q4 q5 q6 q7 q8
      have hb4 := hb3 w.heap.size w hb0r (Nat.le_refl _)
      refine bodyPost_ret (v := .tuple #[symV Sym.zero, .bool false]) (by simp [results, Tryz.results8, go_sem, symV, Sym.zero, q0, q1, q2, q3, q4, q5, q6, q7, q8]) rfl ?_
      exact ⟨by rw [HF.out]; rfl, hb4⟩
end Go.Proofs.YtdbhijkfhcgojaaGreatDoor
