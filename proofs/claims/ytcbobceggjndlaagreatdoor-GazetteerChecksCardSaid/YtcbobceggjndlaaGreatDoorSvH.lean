/-
  region.divide, region.read and region.Check at a plan without arcs.
-/
import Derived.Test.YtcbobceggjndlaaGreatDoorSvG
import Derived.Deep.AppendLies
import Derived.Deep.RegionLaw
set_option linter.unusedVariables false
set_option linter.unusedSimpArgs false
namespace Go.Proofs.YtcbobceggjndlaaGreatDoor
open Go.RowKit

theorem Bk.set3 {w : World} {b : Nat} {t : TypeId} {a0 a1 a2 a3 : Value} (h : Bk w b t #[a0, a1, a2, a3]) (u : Value) : Bk (w.setCell ⟨b, 3, none⟩ u) b t #[a0, a1, a2, u] := by
  unfold Bk at h ⊢
  simp [World.setCell, Array.getElem?_modify, h]
theorem OI.grown {w w' : World} {B b : Nat} {v : Value} {xs : List Int} (h : OI w B v xs) (hg : w.grownBy w' (some b)) (hb : b < B) : OI w' B v xs := by
  obtain ⟨h1, h2⟩ := h
  refine ⟨h1, ?_⟩
  rcases h2 with h2 | ⟨g, cap, cur, hv, hgB, hh, r⟩
  · exact Or.inl h2
  · exact Or.inr ⟨g, cap, cur, hv, hgB, (hg.block g (Array.getElem?_eq_some_iff.1 hh).1 (fun e => by injection e; omega)).trans hh, r⟩
theorem PB.grown {B : Nat} {A : Option Addr} {n c : Nat} {w W W' : World} {r : Option Nat} (h : PB B A n c w W) (hg : W.grownBy W' r) (hne : ∀ k, k ≤ B → some k ≠ r) : PB B A n c w W' :=
  ⟨(hg.block B h.1.lt (hne B (Nat.le_refl _))).trans h.1, h.2.trans ⟨hg.os, hg.tape, hg.output, hg.size, fun k hk => hg.block k (Nat.lt_of_lt_of_le hk (Nat.le_of_lt h.1.lt)) (hne k (Nat.le_of_lt hk))⟩⟩
theorem grown_setCell (w : World) (b i : Nat) (u : Value) : w.grownBy (w.setCell ⟨b, i, none⟩ u) (some b) :=
  ⟨rfl, rfl, rfl, by simp [World.setCell], fun k _ hne => Below.heap_setCell w ⟨b, i, none⟩ u k (fun e => hne (by rw [e]))⟩
/-- One region, the unbounded one. -/
def DivPost (w : World) (e : Ending) (w' : World) : Prop := Below w.heap.size w w' ∧ ∃ b c A n k, e = .returned (.slice (some ⟨b, 0, none⟩) 1 c) ∧ w.heap.size ≤ b ∧ Bk w' b 162 #[.int .i64 0, .slice none 0 0, .slice none 0 0, .slice A n k]

set_option maxHeartbeats 8000000 in
theorem divide_ok (A : Option Addr) (c n : Nat) (ns : List Nd) (m : Value) (w : World) (hn : ns.length = n) (hx : n ≤ 256) (hA : RN w A ns) :
    Calls Tryz.prog 100 #[.agg #[.slice A n c, .slice none 0 0, .slice none 0 0], .slice none 0 0, m] w (DivPost w) := by
  go_enter Tryz.func100, Tryz.ntmps100
  go_wp2_with fail
  have P0 := PB.new w A n c
  have hbN := (Below.refl _ (w.alloc (.cells #[.slice A n c, .slice none 0 0, .slice none 0 0] 38))).alloc (Nat.le_refl _) (.cells #[.int .i64 0, .slice none 0 0, .slice none 0 0, .slice none 0 0] 162)
  have P1 := P0.step hbN
  have k1 := Bk.new (w.alloc (.cells #[.slice A n c, .slice none 0 0, .slice none 0 0] 38)) #[.int .i64 0, .slice none 0 0, .slice none 0 0, .slice none 0 0] 162
  rw [show (w.alloc (.cells #[.slice A n c, .slice none 0 0, .slice none 0 0] 38)).heap.size = w.heap.size + 1 by simp] at k1
  obtain ⟨W1, hW1⟩ : ∃ W, (w.alloc (.cells #[.slice A n c, .slice none 0 0, .slice none 0 0] 38)).alloc (.cells #[.int .i64 0, .slice none 0 0, .slice none 0 0, .slice none 0 0] 162) = W := ⟨_, rfl⟩
  have hz1 : w.heap.size + 2 ≤ W1.heap.size := by rw [← hW1]; simp
  rw [hW1] at P1 k1 ⊢
  clear hW1 hbN P0
  have q0 := P1.c0
  refine wp_loop_rounds 1 ?_
  rw [rounds_succ]
  go_wp2_with fail
  refine wp_loop_rounds 1 ?_
  rw [rounds_succ]
  go_wp2_with fail
  clear q0
  go_loopw [81] (fun iv wr => ∃ (i : Nat) (Av : Option Addr) (nv cv : Nat) (acc : List Int), iv = .int .i64 i ∧ i ≤ n ∧ Bk wr (w.heap.size + 1) 162 #[.int .i64 0, .slice none 0 0, .slice none 0 0, .slice Av nv cv] ∧ OI wr W1.heap.size (.slice Av nv cv) acc ∧ acc.length ≤ i ∧ PB w.heap.size A n c w wr ∧ W1.heap.size ≤ wr.heap.size) (fun iv _ => n - (intOf iv).toNat)
  case atStart => exact ⟨0, none, 0, 0, [], rfl, by omega, k1, OI.nil _ _, by simp, P1, Nat.le_refl _⟩
  case round =>
    obtain ⟨i, Av, nv, cv, acc, rfl, hi, hk, ho, hal, P2, hzr⟩ := hrel
    by_cases hlt : i < n
    · obtain ⟨b1, o1, rfl, hbb1, hc1⟩ := hA i (by omega)
      obtain ⟨c1, c2, c3⟩ := hc1 i (by omega)
      have d1 := (P2.2.cell (p := ⟨b1, o1 + i * 3, none⟩) hbb1).trans c1
      have d2 := (P2.2.cell (p := ⟨b1, o1 + i * 3 + 1, none⟩) hbb1).trans c2
      have d3 := (P2.2.cell (p := ⟨b1, o1 + i * 3 + 2, none⟩) hbb1).trans c3
      have hbn := (Below.refl _ wr).alloc (Nat.le_refl _) (.cells #[.int .i64 (nd ns i).id, .int .i64 (nd ns i).x, .int .i64 (nd ns i).y] 33)
      have P3 := P2.step hbn
      have kn := Bk.new wr #[.int .i64 (nd ns i).id, .int .i64 (nd ns i).x, .int .i64 (nd ns i).y] 33
      have hk3 := hk.below hbn hk.lt
      have ho3 := ho.below hbn (Nat.le_refl _)
      have q0 := P3.c0
      have q1 := P3.c1
      have q2 := P3.c2
      go_wp2_with fail
      refine (degree_ok _ _ _).mono ?_
      first | rintro e w2 rfl hb2 | rintro e w2 ⟨rfl, hb2⟩
      have P4 := P3.step hb2
      have kn4 := kn.below hb2 kn.lt
      have hk4 := hk3.below hb2 hk3.lt
      have ho4 := ho3.below hb2 (Nat.le_refl _)
      have e1 : w2.cell? ⟨wr.heap.size, 1, none⟩ = some (.int .i64 (nd ns i).x) := kn4.cell 1
      have e2 : w2.cell? ⟨wr.heap.size, 2, none⟩ = some (.int .i64 (nd ns i).y) := kn4.cell 2
      clear d1 d2 d3 q0 q1 q2 P3 kn hk3 ho3 hb2 hbn hk ho P2
      go_wp2_with fail
      refine (find_ok _ _ _ _ _ _).mono ?_
      first | rintro e w3 rfl hb3 | rintro e w3 ⟨rfl, hb3⟩
      have P5 := P4.step hb3
      have kn5 := kn4.below hb3 kn4.lt
      have hk5 := hk4.below hb3 hk4.lt
      have ho5 := ho4.below hb3 (Nat.le_refl _)
      have e0 : w3.cell? ⟨wr.heap.size, 0, none⟩ = some (.int .i64 (nd ns i).id) := kn5.cell 0
      have r3 : w3.cell? ⟨w.heap.size + 1, 3, none⟩ = some (.slice Av nv cv) := hk5.cell 3
      have f3 := hk5.frozen 3
      clear e1 e2 P4 kn4 hk4 ho4 hb3
      go_wp2_with fail
      obtain ⟨i0, hi0, hz0, hi1, hi2⟩ := info_parts int_info
      have hown : (w3.drew.alloc (.cells #[.int .i64 (nd ns i).id] 3)).ownsRow W1.heap.size 3 1 (.slice Av nv cv) acc.length (acc.map (Value.int .i64)) := World.ownsRow.alloc (w := w3.drew) ho5 _
      have hkA : Bk (w3.drew.alloc (.cells #[.int .i64 (nd ns i).id] 3)) (w.heap.size + 1) 162 #[.int .i64 0, .slice none 0 0, .slice none 0 0, .slice Av nv cv] := Bk.alloc (w := w3.drew) hk5 _
      have PA : PB w.heap.size (some ⟨b1, o1, none⟩) n c w (w3.drew.alloc (.cells #[.int .i64 (nd ns i).id] 3)) := (P5.step (below_drewN (Below.refl _ _) 1)).step ((Below.refl _ _).alloc (Nat.le_refl _) _)
      have hza : W1.heap.size ≤ w3.heap.size := by have := ho5; have h5 := hk5.lt; have h6 := kn5.lt; omega
      have hne : some (w.heap.size + 1) ≠ (Value.slice Av nv cv).ownBlock := fun e => by have := (ho5.own _ e.symm).1; omega
      have hneP : some w.heap.size ≠ (Value.slice Av nv cv).ownBlock := fun e => by have := (ho5.own _ e.symm).1; omega
      have hneB : ∀ k, k < w.heap.size → some k ≠ (Value.slice Av nv cv).ownBlock := fun k hk e => by have := (ho5.own _ e.symm).1; omega
      have rA : (w3.alloc (.cells #[.int .i64 (nd ns i).id] 3)).cell? ⟨w.heap.size + 1, 3, none⟩ = some (.slice Av nv cv) := (Bk.alloc hk5 _).cell 3
      have eA : (w3.alloc (.cells #[.int .i64 (nd ns i).id] 3)).cell? ⟨wr.heap.size, 0, none⟩ = some (.int .i64 (nd ns i).id) := (Bk.alloc kn5 _).cell 0
      have HNE := Lib.hid hne
      have HNP := Lib.hid hneP
      have HNB := Lib.hid hneB
      have HOWN := Lib.hid hown
      have HKA := Lib.hid hkA
      have HPA := Lib.hid PA
      clear hown hkA PA hk5 ho5 P5 kn5 hne hneP hneB
      go_region_law (refine step_append_lies _ rfl _ _ 36 rfl W1.heap.size 3 i0 (.int .i64 0) 1 8 Tryz.underlying36 hi0 hz0 hi1 hi2 rfl (by decide) (.slice Av nv cv) acc.length (acc.map (Value.int .i64)) (by simp [Act.eval, Act.put]) HOWN.out ⟨w3.heap.size, 0, none⟩ 1 1 [.int .i64 (nd ns i).id] (by simp [Act.eval, Act.put]) rfl (cell_one_new w3.drew _ _) (by simp [Value.oneCell']) (by omega) (by unfold maxLen; omega) (by omega) (by simp; omega) _ rfl ?_; intro g cap w4 ho4 hg4 hgb hl4; have K4 : Bk w4 (w.heap.size + 1) 162 #[.int .i64 0, .slice none 0 0, .slice none 0 0, .slice Av nv cv] := (hg4.block (w.heap.size + 1) HKA.out.lt HNE.out).trans HKA.out; have r4 : w4.cell? ⟨w.heap.size + 1, 3, none⟩ = some (.slice Av nv cv) := K4.cell 3; have f4 : w4.frozen? ⟨w.heap.size + 1, 3, none⟩ = false := K4.frozen 3)
      all_goals (
        have hP4 : PB w.heap.size (some ⟨b1, o1, none⟩) n c w w4 := HPA.out.grown hg4 (fun k hk => (Nat.lt_or_eq_of_le hk).elim (fun h => HNB.out k h) (fun h => by rw [h]; exact HNP.out))
        have hgs := grown_setCell w4 (w.heap.size + 1) 3 (.slice (some ⟨g, 0, none⟩) (acc.length + 1) cap)
        have hP5 := hP4.grown hgs (fun k hk e => by injection e; omega)
        have hk6 := Bk.set3 K4 (.slice (some ⟨g, 0, none⟩) (acc.length + 1) cap)
        have ho6 : OI w4 W1.heap.size (.slice (some ⟨g, 0, none⟩) (acc.length + 1) cap) (acc ++ [(nd ns i).id]) := by simpa [OI] using ho4
        have ho7 := ho6.grown hgs (by omega)
        have hz7 : W1.heap.size ≤ (w4.setCell ⟨w.heap.size + 1, 3, none⟩ (.slice (some ⟨g, 0, none⟩) (acc.length + 1) cap)).heap.size := by
          have := hg4.size
          have := hgs.size
          simp at *
          omega
        clear r4 f4 hgs hP4 ho6 ho4 hg4 K4
        go_wp2_with fail
        go_roundw
        case rel => exact ⟨i + 1, some ⟨g, 0, none⟩, acc.length + 1, cap, acc ++ [(nd ns i).id], by go_num, by omega, hk6, ho7, by simp; omega, hP5, hz7⟩
        case measure => simp [intOf]; omega)
    · go_wp2_with fail
      go_ret
      exact ⟨P2.2, _, _, _, _, _, rfl, by omega, hk⟩

/-- Regions, faces, paths, and no error. -/
def ReadPost (w : World) (e : Ending) (w' : World) : Prop := Below w.heap.size w w' ∧ ∃ a b c, e = .returned (.tuple #[a, b, c, .int .i64 0])
set_option maxHeartbeats 2000000 in
theorem gread_ok (A : Option Addr) (c n : Nat) (ns : List Nd) (w : World) (hn : ns.length = n) (hc : n ≤ c) (hA : RN w A ns) (hg : Good ns) :
    Calls Tryz.prog 77 #[.agg #[.slice A n c, .slice none 0 0, .slice none 0 0]] w (ReadPost w) := by
  have HG := Lib.hid hg
  clear hg
  go_enter Tryz.func77, Tryz.ntmps77
  go_wp2_with fail
  have P0 := PB.new w A n c
  refine (cycles_ok A c n ns _ hn hc (hA.below P0.2) HG.out).mono ?_
  first | rintro e w1 rfl hb1 | rintro e w1 ⟨rfl, hb1⟩
  have P1 := P0.step hb1
  clear P0 hb1
  have q0 := P1.c0
  have q1 := P1.c1
  have q2 := P1.c2
  go_wp2_with fail
  refine (pathsOf_ok A c n _).mono ?_
  rintro e w2 ⟨hb2, m2, rfl⟩
  have P2 := P1.step hb2
  clear P1 hb2 q0 q1 q2
  have q0 := P2.c0
  have q1 := P2.c1
  have q2 := P2.c2
  go_wp2_with fail
  refine (divide_ok A c n ns _ _ hn (by rw [← hn]; exact HG.out.few) (hA.below P2.2)).mono ?_
  rintro e w3 ⟨hb3, b3, c3, A3, n3, k3, rfl, hb3', hk3⟩
  have P3 := P2.step hb3
  clear P2 hb3 q0 q1 q2
  have q0 := P3.c0
  have q1 := P3.c1
  have q2 := P3.c2
  go_wp2_with fail
  refine (faces_ok A c n b3 c3 A3 n3 k3 _ hk3.lt (hk3.cell 0) (hk3.cell 1) (hk3.cell 2) (hk3.cell 3)).mono ?_
  rintro e w4 ⟨hb4, v4, rfl⟩
  have P4 := P3.step hb4
  clear q0 q1 q2
  go_wp2_with fail
  refine bodyPost_ret (v := .tuple #[.slice (some ⟨b3, 0, none⟩) 1 c3, v4, .map (some m2), .int .i64 0]) (by simp [results, Tryz.results77, go_sem]) rfl ?_
  exact ⟨P4.2, _, _, _, rfl⟩
theorem gcheck_ok (A : Option Addr) (c n : Nat) (ns : List Nd) (w : World) (hn : ns.length = n) (hc : n ≤ c) (hA : RN w A ns) (hg : Good ns) :
    Calls Tryz.prog 41 #[.agg #[.slice A n c, .slice none 0 0, .slice none 0 0]] w fun e w' => e = .returned (.int .i64 0) ∧ Below w.heap.size w w' := by
  have HG := Lib.hid hg
  clear hg
  go_enter Tryz.func41, Tryz.ntmps41
  go_wp2_with fail
  have P0 := PB.new w A n c
  refine (gread_ok A c n ns _ hn hc (hA.below P0.2) HG.out).mono ?_
  rintro e w1 ⟨hb1, x1, x2, x3, rfl⟩
  have P1 := P0.step hb1
  go_wp2_with fail
  go_ret
  exact ⟨rfl, P1.2⟩
end Go.Proofs.YtcbobceggjndlaaGreatDoor
