/-
  Features: Find; nodes: Contains.
-/
import Derived.Test.YtcbobceggjndlaaGreatDoorSwL
import Derived.Deep.DeepCutAuto
set_option linter.unusedVariables false
set_option linter.unusedSimpArgs false
namespace Go.Proofs.YtcbobceggjndlaaGreatDoor
open Go.RowKit

/-- Five stores into one block. -/
theorem Bk.setAt {w : World} {b : Nat} {t : TypeId} {cs : Array Value} (h : Bk w b t cs) (i : Nat) (u : Value) : Bk (w.setCell ⟨b, i, none⟩ u) b t (cs.setIfInBounds i u) := by
  unfold Bk at h ⊢
  simp [World.setCell, Array.getElem?_modify, h]
theorem Bk.set5 {w : World} {b : Nat} {t : TypeId} {a0 a1 a2 a3 a4 : Value} (h : Bk w b t #[a0, a1, a2, a3, a4]) (v0 v1 v2 v3 v4 : Value) : ∃ W, (((((w.setCell ⟨b, 0, none⟩ v0).setCell ⟨b, 1, none⟩ v1).setCell ⟨b, 2, none⟩ v2).setCell ⟨b, 3, none⟩ v3).setCell ⟨b, 4, none⟩ v4) = W ∧ Bk W b t #[v0, v1, v2, v3, v4] ∧ (∀ (B : Nat) (w0 : World), Below B w0 w → B ≤ b → Below B w0 W) ∧ w.grownBy W (some b) := by
  refine ⟨_, rfl, ?_, fun B w0 hb hB => ?_, ?_⟩
  · have h9 := ((((h.setAt 0 v0).setAt 1 v1).setAt 2 v2).setAt 3 v3).setAt 4 v4
    simp only [List.setIfInBounds_toArray, List.set_cons_zero, List.set_cons_succ] at h9
    exact h9
  · exact ((((hb.setCell hB v0).setCell hB v1).setCell hB v2).setCell hB v3).setCell hB v4
  · exact grown_trans (grown_trans (grown_trans (grown_trans (grown_setCell _ _ _ _) (grown_setCell _ _ _ _)) (grown_setCell _ _ _ _)) (grown_setCell _ _ _ _)) (grown_setCell _ _ _ _)
def FindPost (f : Ftr) (w : World) (e : Ending) (w' : World) : Prop := ∃ v, e = .returned (.tuple #[.agg #[.int .i64 f.id, .int .i64 f.kind, .int .i64 f.cls, .string f.name, v], .bool true]) ∧ OI w' w.heap.size v f.parts ∧ Below w.heap.size w w'

set_option maxHeartbeats 8000000 in
theorem ffind_none (fs : List Ftr) (AF : Option Addr) (nF cF : Nat) (v0 v1 v2 : Value) (id : Int) (w : World) (hn : fs.length = nF) (hx : nF ≤ 1000000) (hr : RF w AF fs) (hno : ∀ j, j < nF → (ft fs j).id ≠ id) :
    Calls Tryz.prog 21 #[.agg #[v0, v1, v2, .slice AF nF cF], .int .i64 id] w fun e w' => e = .returned (.tuple #[.agg #[.int .i64 0, .int .i64 0, .int .i64 0, .string ⟨#[]⟩, .slice none 0 0], .bool false]) ∧ Below w.heap.size w w' := by
  have HNO := Lib.hid hno
  clear hno
  go_enter Tryz.func21, Tryz.ntmps21
  go_wp2_with fail
  obtain ⟨W1, hW⟩ : ∃ X, (w.alloc (.cells #[v0, v1, v2, .slice AF nF cF] 43)).alloc (.cells #[.int .i64 0, .int .i64 0, .int .i64 0, .string ⟨#[]⟩, .slice none 0 0] 40) = X := ⟨_, rfl⟩
  have hb1 : Below w.heap.size w W1 := by rw [← hW]; exact ((Below.refl _ _).alloc (Nat.le_refl _) _).alloc (by simp) _
  have kz : Bk W1 (w.heap.size + 1) 40 #[.int .i64 0, .int .i64 0, .int .i64 0, .string ⟨#[]⟩, .slice none 0 0] := by
    rw [← hW]
    have := Bk.new (w.alloc (.cells #[v0, v1, v2, .slice AF nF cF] 43)) #[.int .i64 0, .int .i64 0, .int .i64 0, .string ⟨#[]⟩, .slice none 0 0] 40
    rw [show (w.alloc (.cells #[v0, v1, v2, .slice AF nF cF] 43)).heap.size = w.heap.size + 1 by simp] at this
    exact this
  rw [hW]
  clear hW
  go_loopw [11] (fun iv wr => ∃ i : Nat, iv = .int .i64 i ∧ i ≤ nF ∧ Below W1.heap.size W1 wr) (fun iv _ => nF - (intOf iv).toNat)
  case atStart => exact ⟨0, rfl, by omega, Below.refl _ _⟩
  case round =>
    obtain ⟨i, rfl, hi, hbw⟩ := hrel
    have hzr := hbw.size
    have b0r : Below w.heap.size w wr := hb1.trans (hbw.mono hb1.size)
    by_cases hlt : i < nF
    · obtain ⟨b1, o1, rfl, hbb1, hc1⟩ := (hr.below b0r).1 i (by omega)
      obtain ⟨d0, d1, d2, d3, d4⟩ := hc1 i (by omega)
      have hne : ((ft fs i).id == id) = false := by simpa using HNO.out i hlt
      clear hc1
      go_wp2_with fail
      go_roundw
      case rel => exact ⟨i + 1, by go_num, by omega, hbw.alloc hzr _⟩
      case measure => simp [intOf]; omega
    · have kr := kz.below hbw kz.lt
      have q0 := kr.cell 0
      have q1 := kr.cell 1
      have q2 := kr.cell 2
      have q3 := kr.cell 3
      have q4 := kr.cell 4
      have f0 := kr.frozen 0
      have f1 := kr.frozen 1
      have f2 := kr.frozen 2
      have f3 := kr.frozen 3
      have f4 := kr.frozen 4
      simp only [List.getElem?_toArray, List.getElem?_cons_zero, List.getElem?_cons_succ] at q0 q1 q2 q3 q4
      go_wp2_with fail
      obtain ⟨W3, hW3, hk5, hb3, _⟩ := kr.set5 (.int .i64 0) (.int .i64 0) (.int .i64 0) (.string ⟨#[]⟩) (.slice none 0 0)
      rw [hW3]
      clear hW3 q0 q1 q2 q3 q4
      have q0 := hk5.cell 0
      have q1 := hk5.cell 1
      have q2 := hk5.cell 2
      have q3 := hk5.cell 3
      have q4 := hk5.cell 4
      simp only [List.getElem?_toArray, List.getElem?_cons_zero, List.getElem?_cons_succ] at q0 q1 q2 q3 q4
      refine bodyPost_ret (v := .tuple #[.agg #[.int .i64 0, .int .i64 0, .int .i64 0, .string ⟨#[]⟩, .slice none 0 0], .bool false]) (by simp [results, Tryz.results21, go_sem, q0, q1, q2, q3, q4]) rfl ?_
      exact ⟨rfl, hb3 w.heap.size w b0r (by omega)⟩

set_option maxHeartbeats 8000000 in
theorem ffind_hit (fs : List Ftr) (AF : Option Addr) (nF cF k : Nat) (v0 v1 v2 : Value) (id : Int) (w : World) (hn : fs.length = nF) (hx : nF ≤ 1000000) (hr : RF w AF fs) (hk : k < nF) (hid : (ft fs k).id = id) (hno : ∀ j, j < k → (ft fs j).id ≠ id) (hp : 0 < (ft fs k).pn) (hp2 : (ft fs k).pn ≤ 1000000) :
    Calls Tryz.prog 21 #[.agg #[v0, v1, v2, .slice AF nF cF], .int .i64 id] w (FindPost (ft fs k) w) := by
  have HNO := Lib.hid hno
  have HID := Lib.hid hid
  clear hno hid
  go_enter Tryz.func21, Tryz.ntmps21
  go_wp2_with fail
  obtain ⟨W1, hW⟩ : ∃ X, (w.alloc (.cells #[v0, v1, v2, .slice AF nF cF] 43)).alloc (.cells #[.int .i64 0, .int .i64 0, .int .i64 0, .string ⟨#[]⟩, .slice none 0 0] 40) = X := ⟨_, rfl⟩
  have hb1 : Below w.heap.size w W1 := by rw [← hW]; exact ((Below.refl _ _).alloc (Nat.le_refl _) _).alloc (by simp) _
  have kz : Bk W1 (w.heap.size + 1) 40 #[.int .i64 0, .int .i64 0, .int .i64 0, .string ⟨#[]⟩, .slice none 0 0] := by
    rw [← hW]
    have := Bk.new (w.alloc (.cells #[v0, v1, v2, .slice AF nF cF] 43)) #[.int .i64 0, .int .i64 0, .int .i64 0, .string ⟨#[]⟩, .slice none 0 0] 40
    rw [show (w.alloc (.cells #[v0, v1, v2, .slice AF nF cF] 43)).heap.size = w.heap.size + 1 by simp] at this
    exact this
  rw [hW]
  clear hW
  have lz := kz.lt
  go_loopw [11] (fun iv wr => ∃ i : Nat, iv = .int .i64 i ∧ i ≤ k ∧ Below W1.heap.size W1 wr) (fun iv _ => nF - (intOf iv).toNat)
  case atStart => exact ⟨0, rfl, by omega, Below.refl _ _⟩
  case round =>
    obtain ⟨i, rfl, hi, hbw⟩ := hrel
    have hzr := hbw.size
    have b0r : Below w.heap.size w wr := hb1.trans (hbw.mono hb1.size)
    obtain ⟨b1, o1, rfl, hbb1, hc1⟩ := (hr.below b0r).1 i (by omega)
    obtain ⟨d0, d1, d2, d3, d4⟩ := hc1 i (by omega)
    by_cases hlt : i < k
    · have hne : ((ft fs i).id == id) = false := by simpa using HNO.out i hlt
      clear hc1
      go_wp2_with fail
      go_roundw
      case rel => exact ⟨i + 1, by go_num, by omega, hbw.alloc hzr _⟩
      case measure => simp [intOf]; omega
    · obtain rfl : i = k := by omega
      have hpr := (hr.below b0r).2 i (by omega)
      have hne : ((ft fs i).id == id) = true := by simpa using HID.out
      generalize ft fs i = F at *
      obtain ⟨fid, fkind, fcls, fname, fpA, fpn, fpc, fparts⟩ := F
      dsimp only at d0 d1 d2 d3 d4 hpr hne hp hp2
      obtain ⟨hri, hpl⟩ := hpr
      obtain ⟨bp, op, rfl, hbbp, hcp⟩ := hri 0 (by omega)
      have HCP : Hid (∀ j, j < fparts.length → wr.cell? ⟨bp, op + j, none⟩ = some (.int .i64 (gi fparts j))) := Lib.hid hcp
      clear hc1 hcp
      go_upto_region 5 with fail
      obtain ⟨W2, hW⟩ : ∃ X, wr.alloc (.cells #[.int .i64 fid, .int .i64 fkind, .int .i64 fcls, .string fname, .slice (some ⟨bp, op, none⟩) fpn fpc] 40) = X := ⟨_, rfl⟩
      have hb2 : Below wr.heap.size wr W2 := by rw [← hW]; exact (Below.refl _ _).alloc (Nat.le_refl _) _
      have kf : Bk W2 wr.heap.size 40 #[.int .i64 fid, .int .i64 fkind, .int .i64 fcls, .string fname, .slice (some ⟨bp, op, none⟩) fpn fpc] := by rw [← hW]; exact Bk.new _ _ _
      rw [hW]
      clear hW d0 d1 d2 d3 d4
      have t4 : W2.cell? ⟨wr.heap.size, 4, none⟩ = some (.slice (some ⟨bp, op, none⟩) fpn fpc) := kf.cell 4
      have HC := Lib.hid (Tryz.slices_Clone_int bp op fpn fpc fparts W2 (by omega) (by omega) (fun j hj => (hb2.cell (p := ⟨bp, op + j, none⟩) hbbp).trans (HCP.out j hj)))
      go_wp2_with fail
      refine HC.out.mono ?_
      rintro e w3 ⟨v', rfl, hown, _, hb3⟩
      have hl2 : (fparts.take fpn).length = fpn := by simp; omega
      have h2 : OI w3 W2.heap.size v' (fparts.take fpn) := by
        unfold OI
        rw [hl2]
        exact hown
      obtain ⟨Av, cv, rfl, _, _, _⟩ := h2.form
      rw [hl2] at h2 ⊢
      have kf3 := kf.below hb3 kf.lt
      have kz3 := (kz.below (hbw.trans (hb2.mono hzr)) lz).below hb3 (Nat.lt_of_lt_of_le lz (Nat.le_trans hzr hb2.size))
      have z23 := hb3.size
      have z12 := hb2.size
      have lf := kf.lt
      have HO := Lib.hid h2
      have b03 : Below w.heap.size w w3 := (b0r.trans (hb2.mono b0r.size)).trans (hb3.mono (Nat.le_trans b0r.size hb2.size))
      have zz := b0r.size
      clear hown t4 HC h2
      have t4 : w3.cell? ⟨wr.heap.size, 4, none⟩ = some (.slice (some ⟨bp, op, none⟩) fpn fpc) := kf3.cell 4
      have g4 := kf3.frozen 4
      go_upto_region 6 with fail
      have kf4 : Bk (w3.setCell ⟨wr.heap.size, 4, none⟩ (.slice Av fpn cv)) wr.heap.size 40 #[.int .i64 fid, .int .i64 fkind, .int .i64 fcls, .string fname, (.slice Av fpn cv)] := kf3.setAt 4 (.slice Av fpn cv)
      have gr4 := grown_setCell w3 wr.heap.size 4 (.slice Av fpn cv)
      have kz4 : Bk (w3.setCell ⟨wr.heap.size, 4, none⟩ (.slice Av fpn cv)) (w.heap.size + 1) 40 #[.int .i64 0, .int .i64 0, .int .i64 0, .string ⟨#[]⟩, .slice none 0 0] := Bk.grown kz3 gr4 (fun e => by injection e; omega)
      have b04 : Below w.heap.size w (w3.setCell ⟨wr.heap.size, 4, none⟩ (.slice Av fpn cv)) := b03.setCell (by show w.heap.size ≤ wr.heap.size; omega) _
      have HO4 : Hid (OI (w3.setCell ⟨wr.heap.size, 4, none⟩ (.slice Av fpn cv)) W2.heap.size (.slice Av fpn cv) (fparts.take fpn)) := Lib.hid (HO.out.grown gr4 (by omega))
      generalize w3.setCell ⟨wr.heap.size, 4, none⟩ (.slice Av fpn cv) = w4 at *
      clear t4 g4 HO kf3 kz3 gr4
      have q0 := kf4.cell 0
      have q1 := kf4.cell 1
      have q2 := kf4.cell 2
      have q3 := kf4.cell 3
      have q4 := kf4.cell 4
      have e0 := kz4.cell 0
      have e1 := kz4.cell 1
      have e2 := kz4.cell 2
      have e3 := kz4.cell 3
      have e4 := kz4.cell 4
      have f0 := kz4.frozen 0
      have f1 := kz4.frozen 1
      have f2 := kz4.frozen 2
      have f3 := kz4.frozen 3
      have f4 := kz4.frozen 4
      simp only [List.getElem?_toArray, List.getElem?_cons_zero, List.getElem?_cons_succ] at q0 q1 q2 q3 q4 e0 e1 e2 e3 e4
      go_wp2_with fail
      obtain ⟨W5, hW5, hk5, hb5, hg5⟩ := kz4.set5 (.int .i64 fid) (.int .i64 fkind) (.int .i64 fcls) (.string fname) (.slice Av fpn cv)
      rw [hW5]
      clear hW5 q0 q1 q2 q3 q4 e0 e1 e2 e3 e4
      have q0 := hk5.cell 0
      have q1 := hk5.cell 1
      have q2 := hk5.cell 2
      have q3 := hk5.cell 3
      have q4 := hk5.cell 4
      simp only [List.getElem?_toArray, List.getElem?_cons_zero, List.getElem?_cons_succ] at q0 q1 q2 q3 q4
      refine bodyPost_ret (v := .tuple #[.agg #[.int .i64 fid, .int .i64 fkind, .int .i64 fcls, .string fname, (.slice Av fpn cv)], .bool true]) (by simp [results, Tryz.results21, go_sem, q0, q1, q2, q3, q4]) rfl ?_
      refine ⟨.slice Av fpn cv, rfl, ?_, hb5 w.heap.size w b04 (by omega)⟩
      have h5 := HO4.out.grown hg5 (by omega)
      rw [List.take_of_length_le (by omega)] at h5
      exact h5.mono (by omega)
end Go.Proofs.YtcbobceggjndlaaGreatDoor
