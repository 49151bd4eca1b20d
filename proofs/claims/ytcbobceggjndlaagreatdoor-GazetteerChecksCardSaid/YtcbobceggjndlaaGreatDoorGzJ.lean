/-
  slices.Compact, gazetteer.set and gazetteer.Merge at the example.
-/
import Derived.Test.YtcbobceggjndlaaGreatDoorGzI
set_option linter.unusedVariables false
set_option linter.unusedSimpArgs false
namespace Go.Proofs.YtcbobceggjndlaaGreatDoor
open Go.RowKit

/-- A list of entries of the call's own, from block B on. -/
def OwnPost (B : Nat) (es : List Ent) (w : World) (e : Ending) (w' : World) : Prop := ∃ v, e = .returned v ∧ OE w' B v es ∧ Below B w w'
theorem OE.block {w : World} {B g n cap : Nat} {es : List Ent} (h : OE w B (.slice (some ⟨g, 0, none⟩) n cap) es) : B ≤ g ∧ es.length = n ∧ n ≤ cap ∧ cap ≤ maxLen ∧ ∃ cur : Array Value, Bk w g 29 cur ∧ cur.size = cap * 4 ∧ cur.toList.take (n * 4) = es.flatMap entC := by
  obtain ⟨h1, h2⟩ := h
  rcases h2 with ⟨h, _⟩ | ⟨g', cap', cur, hv, hg, hh, hn, hm, hsz, hcur⟩
  · cases h
  · injection hv with a b c
    injection a with a
    injection a with a
    subst a b c
    exact ⟨hg, rfl, hn, hm, cur, hh, hsz, hcur⟩
theorem take_at {cur : Array Value} {n : Nat} {l : List Value} (h : cur.toList.take n = l) {i : Nat} (hi : i < n) : cur[i]? = l[i]? := by
  rw [← h, List.getElem?_take, if_pos hi]; simp
theorem compact1 (v : Value) (es : List Ent) (w : World) (B : Nat) (h1 : es.length = 1) (ho : OE w B v es) : Calls Tryz.prog 59 #[v] w (OwnPost B es w) := by
  obtain ⟨A, c, rfl, hc, hR⟩ := ho.form
  rw [h1] at ho ⊢
  have HO := Lib.hid ho
  clear ho
  go_enter Tryz.func59, Tryz.ntmps59
  go_wp2_with fail
  go_ret
  exact ⟨_, rfl, HO.out, Below.refl _ _⟩
set_option maxHeartbeats 16000000 in
set_option maxRecDepth 4000 in
theorem compact3 (g cap : Nat) (w : World) (B : Nat) (hB : B ≤ w.heap.size) (ho : OE w B (.slice (some ⟨g, 0, none⟩) 3 cap) [exA, exB, exB]) :
    Calls Tryz.prog 59 #[.slice (some ⟨g, 0, none⟩) 3 cap] w (OwnPost B [exA, exB] w) := by
  obtain ⟨hg, _, hn, hm, cur, hk, hsz, hcur⟩ := ho.block
  have HC : Hid (∀ i, i < 12 → w.cell? ⟨g, i, none⟩ = ([exA, exB, exB].flatMap entC)[i]?) := Lib.hid (fun i hi => (hk.cell i).trans (take_at hcur (by omega)))
  have c0 : w.cell? ⟨g, 0, none⟩ = some (.string ⟨#[85, 114]⟩) := HC.out 0 (by omega)
  have c1 : w.cell? ⟨g, 1, none⟩ = some (.int .i64 7) := HC.out 1 (by omega)
  have c2 : w.cell? ⟨g, 2, none⟩ = some (.int .i64 1) := HC.out 2 (by omega)
  have c3 : w.cell? ⟨g, 3, none⟩ = some (.string ⟨#[65, 49, 45, 98, 50]⟩) := HC.out 3 (by omega)
  have c4 : w.cell? ⟨g, 4, none⟩ = some (.string ⟨#[117, 114]⟩) := HC.out 4 (by omega)
  have c5 : w.cell? ⟨g, 5, none⟩ = some (.int .i64 5) := HC.out 5 (by omega)
  have c6 : w.cell? ⟨g, 6, none⟩ = some (.int .i64 2) := HC.out 6 (by omega)
  have c7 : w.cell? ⟨g, 7, none⟩ = some (.string ⟨#[66, 49, 45, 97, 49]⟩) := HC.out 7 (by omega)
  have c8 : w.cell? ⟨g, 8, none⟩ = some (.string ⟨#[117, 114]⟩) := HC.out 8 (by omega)
  have c9 : w.cell? ⟨g, 9, none⟩ = some (.int .i64 5) := HC.out 9 (by omega)
  have c10 : w.cell? ⟨g, 10, none⟩ = some (.int .i64 2) := HC.out 10 (by omega)
  have c11 : w.cell? ⟨g, 11, none⟩ = some (.string ⟨#[66, 49, 45, 97, 49]⟩) := HC.out 11 (by omega)
  have HF := Lib.hid (fun i => hk.frozen i)
  have HCUR := Lib.hid hcur
  have HSZ := Lib.hid hsz
  have hcap : (cap : Int) ≤ 9223372036854775807 := by unfold maxLen at hm; omega
  have hcap3 : (3 : Int) ≤ cap := by omega
  clear hcur hsz ho
  go_enter Tryz.func59, Tryz.ntmps59
  go_wp2_with fail
  go_loopw [3] (fun iv wr => ∃ k : Nat, (k = 1 ∨ k = 2) ∧ iv = .int .i64 k ∧ ∃ q, wr = w.drewN q) (fun iv _ => 3 - (intOf iv).toNat)
  case atStart => exact ⟨1, Or.inl rfl, rfl, 0, rfl⟩
  case round =>
    obtain ⟨k, hk12, rfl, q, rfl⟩ := hrel
    rcases hk12 with rfl | rfl
    · go_wp2_with fail
      go_region
      all_goals
        go_wp2_with fail
        go_roundw
        case rel => exact ⟨2, Or.inr rfl, rfl, q + 1, rfl⟩
        case measure => simp [intOf]
    · have hcl : ∀ ty, (Builtin.clear_ #[22] ty #[.slice (some ⟨g, 8, none⟩) 1 (cap - 2)]).run Tryz.prog (w.drewN (q + 1)) = .ok (.tuple #[]) ((w.drewN (q + 1)).setCells g 8 [.string ⟨#[]⟩, .int .i64 0, .int .i64 0, .string ⟨#[]⟩]) := fun ty =>
        run_clear_ent (w.drewN (q + 1)) ty g 8 (cap - 2) (fun j hj => by
          rw [World.cell?_drewN, HC.out (8 + j) (by omega)]
          match j, hj with
          | 0, _ => rfl
          | 1, _ => rfl
          | 2, _ => rfl
          | 3, _ => rfl) (fun j hj => by rw [World.frozen?_drewN]; exact HF.out _)
      have b1 : Below B w ((w.drewN (q + 1)).setCells g 8 [.string ⟨#[]⟩, .int .i64 0, .int .i64 0, .string ⟨#[]⟩]) :=
        ((((below_drewN (Below.refl B w) (q + 1)).setCell (p := ⟨g, 8, none⟩) hg _).setCell (p := ⟨g, 9, none⟩) hg _).setCell (p := ⟨g, 10, none⟩) hg _).setCell (p := ⟨g, 11, none⟩) hg _
      have k0 : Bk (w.drewN (q + 1)) g 29 cur := hk
      have k1 : Bk ((w.drewN (q + 1)).setCells g 8 [.string ⟨#[]⟩, .int .i64 0, .int .i64 0, .string ⟨#[]⟩]) g 29 ((((cur.setIfInBounds 8 (.string ⟨#[]⟩)).setIfInBounds 9 (.int .i64 0)).setIfInBounds 10 (.int .i64 0)).setIfInBounds 11 (.string ⟨#[]⟩)) :=
        (((k0.setAt 8 (.string ⟨#[]⟩)).setAt 9 (.int .i64 0)).setAt 10 (.int .i64 0)).setAt 11 (.string ⟨#[]⟩)
      have HO : Hid (OE ((w.drewN (q + 1)).setCells g 8 [.string ⟨#[]⟩, .int .i64 0, .int .i64 0, .string ⟨#[]⟩]) B (.slice (some ⟨g, 0, none⟩) 2 cap) [exA, exB]) := by
        refine Lib.hid (OE.of_cells (es := [exA, exB]) hg k1 (by simp; omega) hm (by simp [HSZ.out]) ?_)
        intro j i hj hi
        simp at hj
        rw [k1.cell]
        have h8 : j * 4 + i < 8 := by omega
        simp only [Array.getElem?_setIfInBounds]
        rw [if_neg (by omega), if_neg (by omega), if_neg (by omega), if_neg (by omega), take_at HCUR.out (by omega)]
        match j, i, hj, hi with
        | 0, 0, _, _ => rfl
        | 0, 1, _, _ => rfl
        | 0, 2, _, _ => rfl
        | 0, 3, _, _ => rfl
        | 1, 0, _, _ => rfl
        | 1, 1, _, _ => rfl
        | 1, 2, _, _ => rfl
        | 1, 3, _, _ => rfl
      clear k0 k1 hk
      obtain ⟨W5, hW5⟩ : ∃ X, (w.drewN (q + 1)).setCells g 8 [.string ⟨#[]⟩, .int .i64 0, .int .i64 0, .string ⟨#[]⟩] = X := ⟨_, rfl⟩
      rw [hW5] at hcl b1 HO
      clear hW5
      go_wp2_with fail
      go_region
      all_goals
        go_wp2_with fail
        refine wp_loop_rounds 1 ?_
        rw [rounds_succ]
        go_wp2_with fail
        go_ret
        exact ⟨_, rfl, HO.out, b1⟩
end Go.Proofs.YtcbobceggjndlaaGreatDoor
