/-
  Symbols: a list of boxes that grows; Taken at the example of the chapter.
-/
import Derived.Test.YtdbhijkfhcgojaaGreatDoorSyH
import Derived.Deep.AppendLies
import Derived.Deep.RegionLaw
set_option linter.unusedVariables false
set_option linter.unusedSimpArgs false
namespace Go.Proofs.YtdbhijkfhcgojaaGreatDoor
open Go.RowKit

def boxC (b : Int × Int × Int × Int) : List Value := [.int .i64 b.1, .int .i64 b.2.1, .int .i64 b.2.2.1, .int .i64 b.2.2.2]
/-- The slice value v is the call's own (from block B on) and holds the boxes bs. -/
def OBx (w : World) (B : Nat) (v : Value) (bs : List (Int × Int × Int × Int)) : Prop := w.ownsRow B 35 4 v bs.length (bs.flatMap boxC)
theorem box_info : (Tryz.prog.info? 35).map (fun i => (i.zero, i.size, i.bytes)) = some (some (.agg #[.int .i64 0, .int .i64 0, .int .i64 0, .int .i64 0]), 4, 32) := by kernel_rfl
theorem OBx.nil (w : World) (B : Nat) : OBx w B (.slice none 0 0) [] := ⟨by simp, Or.inl ⟨rfl, rfl⟩⟩
theorem OBx.set {w : World} {B bp g n cap : Nat} {bs : List (Int × Int × Int × Int)} {u : Value} (h : OBx w B (.slice (some ⟨g, 0, none⟩) n cap) bs) (hne : g ≠ bp) : OBx (w.setCell ⟨bp, 0, none⟩ u) B (.slice (some ⟨g, 0, none⟩) n cap) bs := by
  obtain ⟨u1, u2⟩ := h
  refine ⟨u1, ?_⟩
  rcases u2 with u2 | ⟨g', cap', cur, e1, e2, e3, e4⟩
  · exact Or.inl u2
  · refine Or.inr ⟨g', cap', cur, e1, e2, ?_, e4⟩
    have hg : g' = g := by injection e1 with e1; injection e1 with e1; injection e1 with e1; exact e1.symm
    subst hg
    have hl := (Array.getElem?_eq_some_iff.1 e3).1
    exact ((grown_setCell w bp 0 u).block g' hl (fun e => hne (by injection e))).trans e3
theorem OBx.own {w : World} {B : Nat} {v : Value} {bs : List (Int × Int × Int × Int)} (h : OBx w B v bs) : ∀ k, v.ownBlock = some k → B ≤ k := by
  obtain ⟨u1, u2⟩ := h
  intro k hk
  rcases u2 with ⟨rfl, _⟩ | ⟨g', cap', cur, rfl, e2, _⟩
  · cases hk
  · simp only [Value.ownBlock, Option.some.injEq] at hk
    omega
theorem grown_below_own {a w : World} {B : Nat} {v : Value} (h : a.grownBy w v.ownBlock) (hv : ∀ k, v.ownBlock = some k → B ≤ k) (hs : B ≤ a.heap.size) : Below B a w :=
  ⟨h.os, h.tape, h.output, h.size, fun k hk => h.block k (by omega) (fun e => by have := hv k e.symm; omega)⟩
theorem OBx.below {w w' : World} {B D : Nat} {v : Value} {xs : List (Int × Int × Int × Int)} (h : OBx w B v xs) (hb : Below D w w') (hD : w.heap.size ≤ D) : OBx w' B v xs := by
  obtain ⟨h1, h2⟩ := h
  refine ⟨h1, ?_⟩
  rcases h2 with h2 | ⟨g, cap, cur, hv, hg, hh, r⟩
  · exact Or.inl h2
  · exact Or.inr ⟨g, cap, cur, hv, hg, (hb.block g (Nat.lt_of_lt_of_le (Array.getElem?_eq_some_iff.1 hh).1 hD)).trans hh, r⟩
def AddPost (bp B : Nat) (bs : List (Int × Int × Int × Int)) (W : World) (e : Ending) (W' : World) : Prop :=
  e = .returned (.tuple #[]) ∧ ∃ g cap, Bk W' bp 63 #[.slice (some ⟨g, 0, none⟩) bs.length cap] ∧ OBx W' B (.slice (some ⟨g, 0, none⟩) bs.length cap) bs ∧ g ≠ bp ∧ Below B W W'

set_option maxHeartbeats 4000000 in
theorem add_any (bp B : Nat) (v : Value) (bs : List (Int × Int × Int × Int)) (b : Int × Int × Int × Int) (W : World) (hk : Bk W bp 63 #[v]) (ho : OBx W B v bs) (hl : bs.length ≤ 1000000) (hB : B ≤ bp) (hv : v.ownBlock ≠ some bp) :
    Calls Tryz.prog 26 #[.pointer (some ⟨bp, 0, none⟩), boxV b] W (AddPost bp B (bs ++ [b]) W) := by
  unfold boxV
  obtain ⟨i0, hi0, hz0, hi1, hi2⟩ := info_parts box_info
  have hbp := hk.lt
  go_enter Tryz.func26, Tryz.ntmps26
  go_wp2_with fail
  obtain ⟨W1, hW⟩ : ∃ X, W.alloc (.cells #[.int .i64 b.1, .int .i64 b.2.1, .int .i64 b.2.2.1, .int .i64 b.2.2.2] 35) = X := ⟨_, rfl⟩
  have hb1 : Below W.heap.size W W1 := by rw [← hW]; exact (Below.refl _ _).alloc (Nat.le_refl _) _
  have kb : Bk W1 W.heap.size 35 #[.int .i64 b.1, .int .i64 b.2.1, .int .i64 b.2.2.1, .int .i64 b.2.2.2] := by rw [← hW]; exact Bk.new _ _ _
  have hk1 := hk.below hb1 hbp
  have ho1 : OBx W1 B v bs := by rw [← hW]; exact World.ownsRow.alloc ho _
  rw [hW]
  clear hW
  have q0 := hk1.cell 0
  have r0 := kb.cell 0
  have r1 := kb.cell 1
  have r2 := kb.cell 2
  have r3 := kb.cell 3
  simp only [List.getElem?_toArray, List.getElem?_cons_zero, List.getElem?_cons_succ] at q0 r0 r1 r2 r3
  have hz1 := hb1.size
  have hbp1 : bp < W1.heap.size := hk1.lt
  have HO := Lib.hid (World.ownsRow.alloc (e := 35) ho1 (.cells #[.int .i64 b.1, .int .i64 b.2.1, .int .i64 b.2.2.1, .int .i64 b.2.2.2] 35))
  have HK := Lib.hid (hk1.alloc (.cells #[.int .i64 b.1, .int .i64 b.2.1, .int .i64 b.2.2.1, .int .i64 b.2.2.2] 35))
  have qA := HK.out.cell 0
  have HV := Lib.hid hv
  have HOWN := Lib.hid ho.own
  have HBW : Hid (Below B W (W1.alloc (.cells #[.int .i64 b.1, .int .i64 b.2.1, .int .i64 b.2.2.1, .int .i64 b.2.2.2] 35))) := Lib.hid ((hb1.mono (by omega)).alloc (by omega) _)
  simp only [List.getElem?_toArray, List.getElem?_cons_zero] at qA
  clear hk1 ho1 hk ho hv
  go_region_law (refine step_append_lies _ rfl _ _ 51 rfl B 35 i0 (.agg #[.int .i64 0, .int .i64 0, .int .i64 0, .int .i64 0]) 4 32 Tryz.underlying51 hi0 hz0 hi1 hi2 rfl (by decide) v bs.length (bs.flatMap boxC) (by simp [Act.eval, Act.put]) HO.out ⟨W1.heap.size, 0, none⟩ 1 1 [.int .i64 b.1, .int .i64 b.2.1, .int .i64 b.2.2.1, .int .i64 b.2.2.2] (by simp [Act.eval, Act.put]) rfl (World.news_of_block (heap_alloc_new W1 _)) (by simp [Value.oneCell']) (by omega) (by unfold maxLen; omega) (by omega) (by simp; omega) _ rfl ?_; intro g cap w4 ho4 hg4 hgb hl4; have K4 : Bk w4 bp 63 #[v] := (hg4.block bp HK.out.lt (fun e => HV.out e.symm)).trans HK.out; have f4 : w4.frozen? ⟨bp, 0, none⟩ = false := K4.frozen 0; have c4 : w4.cell? ⟨bp, 0, none⟩ = some v := K4.cell 0)
  all_goals (
    go_wp2_with fail
    go_end0
    have hgv : g ≠ bp := fun e => hgb.elim (fun h => HV.out (by rw [h, e])) (fun h => by simp at h; omega)
    have hlen : (bs ++ [b]).length = bs.length + 1 := by simp
    have hfl : (bs ++ [b]).flatMap boxC = bs.flatMap boxC ++ [.int .i64 b.1, .int .i64 b.2.1, .int .i64 b.2.2.1, .int .i64 b.2.2.2] := by simp [boxC]
    refine ⟨rfl, g, cap, ?_, ?_, hgv, ?_⟩
    · rw [hlen]
      have := K4.setAt 0 (.slice (some ⟨g, 0, none⟩) (bs.length + 1) cap)
      simpa using this
    · have ho5 : OBx w4 B (.slice (some ⟨g, 0, none⟩) (bs.length + 1) cap) (bs ++ [b]) := by
        unfold OBx
        rw [hlen, hfl]
        exact ho4
      rw [hlen]
      exact ho5.set hgv
    · have hx : Below B W w4 := (below_drewN HBW.out 1).trans (grown_below_own (a := (W1.alloc _).drew) hg4 HOWN.out (by simp; omega))
      exact hx.setCell hB _)
end Go.Proofs.YtdbhijkfhcgojaaGreatDoor
