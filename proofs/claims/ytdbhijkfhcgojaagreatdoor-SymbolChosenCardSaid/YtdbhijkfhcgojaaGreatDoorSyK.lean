/-
  Symbols: lists of boxes are compared; the example of the chapter.
-/
import Derived.Test.YtdbhijkfhcgojaaGreatDoorSyJ
set_option linter.unusedVariables false
set_option linter.unusedSimpArgs false
namespace Go.Proofs.YtdbhijkfhcgojaaGreatDoor
open Go.RowKit

def bxAt (bs : List (Int × Int × Int × Int)) (i : Nat) : Int × Int × Int × Int := bs.getD i (0, 0, 0, 0)
/-- The slice at A reads as the boxes bs. -/
def RBx (w : World) (A : Option Addr) (bs : List (Int × Int × Int × Int)) : Prop :=
  ∀ k, k < bs.length → ∃ b off, A = some ⟨b, off, none⟩ ∧ b < w.heap.size ∧ ∀ j, j < bs.length →
    w.cell? ⟨b, off + j * 4, none⟩ = some (.int .i64 (bxAt bs j).1) ∧ w.cell? ⟨b, off + j * 4 + 1, none⟩ = some (.int .i64 (bxAt bs j).2.1) ∧ w.cell? ⟨b, off + j * 4 + 2, none⟩ = some (.int .i64 (bxAt bs j).2.2.1) ∧ w.cell? ⟨b, off + j * 4 + 3, none⟩ = some (.int .i64 (bxAt bs j).2.2.2)
theorem RBx.below {w w' : World} {A : Option Addr} {bs : List (Int × Int × Int × Int)} (h : RBx w A bs) (hb : Below w.heap.size w w') : RBx w' A bs := fun k hk => by
  obtain ⟨b, off, e, hl, hc⟩ := h k hk
  refine ⟨b, off, e, Nat.lt_of_lt_of_le hl hb.size, fun j hj => ?_⟩
  obtain ⟨c1, c2, c3, c4⟩ := hc j hj
  exact ⟨(hb.cell (p := ⟨b, off + j * 4, none⟩) hl).trans c1, (hb.cell (p := ⟨b, off + j * 4 + 1, none⟩) hl).trans c2, (hb.cell (p := ⟨b, off + j * 4 + 2, none⟩) hl).trans c3, (hb.cell (p := ⟨b, off + j * 4 + 3, none⟩) hl).trans c4⟩
theorem OBx.one {w : World} {B : Nat} {v : Value} {x : Int × Int × Int × Int} (h : OBx w B v [x]) : ∃ A c, v = .slice A 1 c ∧ RBx w A [x] := by
  obtain ⟨h1, h2⟩ := h
  rcases h2 with ⟨rfl, hn⟩ | ⟨g, cap, cur, rfl, hg, hh, hn, hm, hsz, hcur⟩
  · simp at hn
  · refine ⟨_, cap, rfl, fun k hk => ⟨g, 0, rfl, (Array.getElem?_eq_some_iff.1 hh).1, fun j hj => ?_⟩⟩
    obtain rfl : j = 0 := by simp at hj; omega
    have e : ∀ i, i < 4 → w.cell? ⟨g, i, none⟩ = (boxC x)[i]? := fun i hi => by
      have h3 : (cur.toList.take 4)[i]? = (boxC x)[i]? := by
        rw [show cur.toList.take 4 = boxC x by simpa using hcur]
      rw [List.getElem?_take, if_pos hi] at h3
      simp [World.cell?, hh]
      simpa using h3
    have e0 := e 0 (by omega)
    have e1 := e 1 (by omega)
    have e2 := e 2 (by omega)
    have e3 := e 3 (by omega)
    refine ⟨?_, ?_, ?_, ?_⟩
    · simpa [boxC, bxAt] using e0
    · simpa [boxC, bxAt] using e1
    · simpa [boxC, bxAt] using e2
    · simpa [boxC, bxAt] using e3

set_option maxHeartbeats 4000000 in
theorem rysame_eq (A A' : Option Addr) (c c' n : Nat) (bs : List (Int × Int × Int × Int)) (w : World) (hn : bs.length = n) (hx : n ≤ 1000000) (hA : RBx w A bs) (hA' : RBx w A' bs) :
    Calls Tryz.prog 15 #[.slice A n c, .slice A' n c'] w fun e w' => e = .returned (.bool true) ∧ Below w.heap.size w w' := by
  go_enter Tryz.func15, Tryz.ntmps15
  go_wp2_with fail
  go_loopw [5] (fun iv wr => ∃ i : Nat, iv = .int .i64 i ∧ i ≤ n ∧ Below w.heap.size w wr) (fun iv _ => n - (intOf iv).toNat)
  case atStart => exact ⟨0, rfl, by omega, Below.refl _ _⟩
  case round =>
    obtain ⟨i, rfl, hi, hbw⟩ := hrel
    by_cases hlt : i < n
    · obtain ⟨b1, o1, rfl, hbb1, hc1⟩ := hA i (by omega)
      obtain ⟨b2, o2, rfl, hbb2, hc2⟩ := hA' i (by omega)
      obtain ⟨c1, c2, c3, c4⟩ := hc1 i (by omega)
      obtain ⟨e1, e2, e3, e4⟩ := hc2 i (by omega)
      have c1 := (hbw.cell (p := ⟨b1, o1 + i * 4, none⟩) hbb1).trans c1
      have c2 := (hbw.cell (p := ⟨b1, o1 + i * 4 + 1, none⟩) hbb1).trans c2
      have c3 := (hbw.cell (p := ⟨b1, o1 + i * 4 + 2, none⟩) hbb1).trans c3
      have c4 := (hbw.cell (p := ⟨b1, o1 + i * 4 + 3, none⟩) hbb1).trans c4
      have e1 := (hbw.cell (p := ⟨b2, o2 + i * 4, none⟩) hbb2).trans e1
      have e2 := (hbw.cell (p := ⟨b2, o2 + i * 4 + 1, none⟩) hbb2).trans e2
      have e3 := (hbw.cell (p := ⟨b2, o2 + i * 4 + 2, none⟩) hbb2).trans e3
      have e4 := (hbw.cell (p := ⟨b2, o2 + i * 4 + 3, none⟩) hbb2).trans e4
      clear hc1 hc2 hA hA'
      go_wp2_with fail
      go_quiet (fail)
      go_wp2_with fail
      go_roundw
      case rel => exact ⟨i + 1, by go_num, by omega, below_drewN hbw _⟩
      case measure => simp [intOf]; omega
    · go_wp2_with fail
      go_ret
      exact ⟨rfl, hbw⟩
end Go.Proofs.YtdbhijkfhcgojaaGreatDoor
