/-
  Candidates: Feature at the example of the chapter, without symbols.
-/
import Derived.Test.YtmmkgdindbdckaaGreatDoorCaD
set_option linter.unusedVariables false
set_option linter.unusedSimpArgs false
namespace Go.Proofs.YtmmkgdindbdckaaGreatDoor
open Go.RowKit

theorem ycheck_nil (w : World) : Calls Tryz.prog 16 #[.slice none 0 0] w fun e w' => e = .returned (.int .i64 0) ∧ Below w.heap.size w w' := by
  go_enter Tryz.func16, Tryz.ntmps16
  go_wp2_with fail
  refine wp_loop_rounds 1 ?_
  rw [rounds_succ]
  go_wp2_with fail
  refine wp_loop_rounds 1 ?_
  rw [rounds_succ]
  go_wp2_with fail
  refine wp_loop_rounds 1 ?_
  rw [rounds_succ]
  go_wp2_with fail
  go_ret
  exact ⟨rfl, Below.refl _ _⟩
set_option maxHeartbeats 4000000 in
theorem yfind_nil (k cl : Int) (w : World) : Calls Tryz.prog 36 #[.slice none 0 0, .int .i64 k, .int .i64 cl] w fun e w' => e = .returned (.tuple #[.agg #[.int .i64 0, .int .i64 0, .int .i64 0, .int .i64 0, .int .i64 0, .int .i64 0, .int .i64 0, .int .i64 0, .int .i64 0], .bool false]) ∧ Below w.heap.size w w' := by
  go_enter Tryz.func36, Tryz.ntmps36
  go_wp2_with fail
  refine wp_loop_rounds 1 ?_
  rw [rounds_succ]
  go_wp2_with fail
  refine bodyPost_ret (v := .tuple #[.agg #[.int .i64 0, .int .i64 0, .int .i64 0, .int .i64 0, .int .i64 0, .int .i64 0, .int .i64 0, .int .i64 0, .int .i64 0], .bool false]) (by simp [results, Tryz.results36, go_sem]) rfl ?_
  refine ⟨rfl, ?_⟩
  go_grown
set_option maxHeartbeats 4000000 in
theorem ccand_nil (b off c bf of cf cv : Nat) (Av : Option Addr) (w : World) :
    Calls Tryz.prog 17 #[.agg #[.slice (some ⟨b, off, none⟩) 1 c, .slice none 0 0, .slice none 0 0, .slice (some ⟨bf, of, none⟩) 1 cf], .agg #[.int .i64 1, .slice none 0 0, .slice (some ⟨b, off, none⟩) 1 c], .agg #[.int .i64 0, .int .i64 0, .int .i64 20, .int .i64 20], .slice none 0 0, .agg #[.int .i64 3, .int .i64 1, .int .i64 1, .string urS, .slice Av 1 cv]] w fun e w' => e = .returned (.slice none 0 0) ∧ Below w.heap.size w w' := by
  have e1 : urS.toList = [85, 114] := by decide +kernel
  go_enter Tryz.func17, Tryz.ntmps17
  go_wp2_with fail
  refine (yfind_nil 1 1 _).mono ?_
  first | rintro e w1 rfl hb1 | rintro e w1 ⟨rfl, hb1⟩
  have b1 : Below w.heap.size w w1 := Below.trans (by go_grown) (hb1.mono (by simp; omega) : Below w.heap.size _ w1)
  have z1 := b1.size
  go_wp2_with fail
  go_ret
  refine ⟨rfl, ?_⟩
  go_grown

set_option maxHeartbeats 8000000 in
theorem cfeat_miss (b off c bf of cf : Nat) (f : Ftr) (id : Int) (w : World) (h : Ex w b off bf of f) (hc : 1 ≤ c) (hid : id ≠ 3) :
    Calls Tryz.prog 12 #[.agg #[.slice (some ⟨b, off, none⟩) 1 c, .slice none 0 0, .slice none 0 0, .slice (some ⟨bf, of, none⟩) 1 cf], .agg #[.int .i64 1, .slice none 0 0, .slice (some ⟨b, off, none⟩) 1 c], .agg #[.int .i64 0, .int .i64 0, .int .i64 20, .int .i64 20], .slice none 0 0, .int .i64 id] w fun e w' => e = .returned (.tuple #[.slice none 0 0, .int .i64 7]) ∧ Below w.heap.size w w' := by
  have HCK := Lib.hid (fun W hb => Ex.check (Ex.below h hb : Ex W b off bf of f) c cf hc)
  have HFN := Lib.hid (fun W (hb : Below w.heap.size w W) => ffind_none [f] (some ⟨bf, of, none⟩) 1 cf (.slice (some ⟨b, off, none⟩) 1 c) (.slice none 0 0) (.slice none 0 0) id W rfl (by omega) (h.g.below hb) (one_lt (by show f.id ≠ id; rw [h.i]; exact fun e => hid e.symm)))
  clear h hid
  simp only [exV_at] at *
  go_enter Tryz.func12, Tryz.ntmps12
  go_wp2_with fail
  obtain ⟨W1, hW⟩ : ∃ X, ((w.alloc (.cells #[.slice (some ⟨b, off, none⟩) 1 c, .slice none 0 0, .slice none 0 0, .slice (some ⟨bf, of, none⟩) 1 cf] 42)).alloc (.cells #[.int .i64 1, .slice none 0 0, .slice (some ⟨b, off, none⟩) 1 c] 46)).alloc (.cells #[.int .i64 0, .int .i64 0, .int .i64 20, .int .i64 20] 30) = X := ⟨_, rfl⟩
  have b1 : Below w.heap.size w W1 := by rw [← hW]; exact (((Below.refl _ _).alloc (Nat.le_refl _) _).alloc (by simp) _).alloc (by simp; omega) _
  have kS : Bk W1 w.heap.size 42 #[.slice (some ⟨b, off, none⟩) 1 c, .slice none 0 0, .slice none 0 0, .slice (some ⟨bf, of, none⟩) 1 cf] := by rw [← hW]; exact ((Bk.new _ _ _).alloc _).alloc _
  rw [hW]
  clear hW
  refine (HCK.out _ b1).mono ?_
  first | rintro e w1 rfl hb1 | rintro e w1 ⟨rfl, hb1⟩
  have b2 : Below w.heap.size w w1 := b1.trans (hb1.mono b1.size)
  replace kS := kS.below hb1 kS.lt
  go_wp2_with fail
  refine (ycheck_nil _).mono ?_
  first | rintro e w2 rfl hb2 | rintro e w2 ⟨rfl, hb2⟩
  have b3 : Below w.heap.size w w2 := b2.trans (hb2.mono b2.size)
  replace kS := kS.below hb2 kS.lt
  have s0 := kS.cell 0
  have s1 := kS.cell 1
  have s2 := kS.cell 2
  have s3 := kS.cell 3
  simp only [List.getElem?_toArray, List.getElem?_cons_zero, List.getElem?_cons_succ] at s0 s1 s2 s3
  go_wp2_with fail
  refine (HFN.out _ b3).mono ?_
  first | rintro e w3 rfl hb3 | rintro e w3 ⟨rfl, hb3⟩
  have b4 : Below w.heap.size w w3 := b3.trans (hb3.mono b3.size)
  have z4 := b4.size
  clear s0 s1 s2 s3
  go_wp2_with fail
  go_ret2
  refine ⟨rfl, ?_⟩
  go_grown

set_option maxHeartbeats 8000000 in
theorem cfeat_hit (b off c bf of cf : Nat) (f : Ftr) (w : World) (h : Ex w b off bf of f) (hc : 1 ≤ c) :
    Calls Tryz.prog 12 #[.agg #[.slice (some ⟨b, off, none⟩) 1 c, .slice none 0 0, .slice none 0 0, .slice (some ⟨bf, of, none⟩) 1 cf], .agg #[.int .i64 1, .slice none 0 0, .slice (some ⟨b, off, none⟩) 1 c], .agg #[.int .i64 0, .int .i64 0, .int .i64 20, .int .i64 20], .slice none 0 0, .int .i64 3] w fun e w' => e = .returned (.tuple #[.slice none 0 0, .int .i64 0]) ∧ Below w.heap.size w w' := by
  obtain ⟨fid, fkind, fcls, fname, fpA, fpn, fpc, fparts⟩ := f
  obtain rfl : fid = 3 := h.i
  obtain rfl : fkind = 1 := h.k
  obtain rfl : fcls = 1 := h.c
  obtain rfl : fname = urS := h.s
  obtain rfl : fparts = [1] := h.p
  obtain rfl : fpn = 1 := h.pn
  have HCK := Lib.hid (fun W hb => Ex.check (Ex.below h hb : Ex W b off bf of _) c cf hc)
  have HFN := Lib.hid (fun W (hb : Below w.heap.size w W) => ffind_hit [⟨3, 1, 1, urS, fpA, 1, fpc, [1]⟩] (some ⟨bf, of, none⟩) 1 cf 0 (.slice (some ⟨b, off, none⟩) 1 c) (.slice none 0 0) (.slice none 0 0) 3 W rfl (by omega) (h.g.below hb) (by omega) rfl (fun j hj => absurd hj (by omega)) (by show 0 < 1; omega) (by show 1 ≤ 1000000; omega))
  clear h
  simp only [exV_at] at *
  go_enter Tryz.func12, Tryz.ntmps12
  go_wp2_with fail
  obtain ⟨W1, hW⟩ : ∃ X, ((w.alloc (.cells #[.slice (some ⟨b, off, none⟩) 1 c, .slice none 0 0, .slice none 0 0, .slice (some ⟨bf, of, none⟩) 1 cf] 42)).alloc (.cells #[.int .i64 1, .slice none 0 0, .slice (some ⟨b, off, none⟩) 1 c] 46)).alloc (.cells #[.int .i64 0, .int .i64 0, .int .i64 20, .int .i64 20] 30) = X := ⟨_, rfl⟩
  have b1 : Below w.heap.size w W1 := by rw [← hW]; exact (((Below.refl _ _).alloc (Nat.le_refl _) _).alloc (by simp) _).alloc (by simp; omega) _
  have kS : Bk W1 w.heap.size 42 #[.slice (some ⟨b, off, none⟩) 1 c, .slice none 0 0, .slice none 0 0, .slice (some ⟨bf, of, none⟩) 1 cf] := by rw [← hW]; exact ((Bk.new _ _ _).alloc _).alloc _
  have kP : Bk W1 (w.heap.size + 1) 46 #[.int .i64 1, .slice none 0 0, .slice (some ⟨b, off, none⟩) 1 c] := by rw [← hW]; exact (Bk.newAt (by simp) _ _).alloc _
  have kB : Bk W1 (w.heap.size + 1 + 1) 30 #[.int .i64 0, .int .i64 0, .int .i64 20, .int .i64 20] := by rw [← hW]; exact Bk.newAt (by simp) _ _
  rw [hW]
  clear hW
  refine (HCK.out _ b1).mono ?_
  first | rintro e w1 rfl hb1 | rintro e w1 ⟨rfl, hb1⟩
  have b2 : Below w.heap.size w w1 := b1.trans (hb1.mono b1.size)
  replace kS := kS.below hb1 kS.lt
  replace kP := kP.below hb1 kP.lt
  replace kB := kB.below hb1 kB.lt
  go_wp2_with fail
  refine (ycheck_nil _).mono ?_
  first | rintro e w2 rfl hb2 | rintro e w2 ⟨rfl, hb2⟩
  have b3 : Below w.heap.size w w2 := b2.trans (hb2.mono b2.size)
  replace kS := kS.below hb2 kS.lt
  replace kP := kP.below hb2 kP.lt
  replace kB := kB.below hb2 kB.lt
  have s0 := kS.cell 0
  have s1 := kS.cell 1
  have s2 := kS.cell 2
  have s3 := kS.cell 3
  simp only [List.getElem?_toArray, List.getElem?_cons_zero, List.getElem?_cons_succ] at s0 s1 s2 s3
  go_wp2_with fail
  refine (HFN.out _ b3).mono ?_
  rintro e w3 ⟨v, rfl, hov, hb3⟩
  obtain ⟨Av, cv, rfl, _, _, _⟩ := hov.form
  have b4 : Below w.heap.size w w3 := b3.trans (hb3.mono b3.size)
  replace kS := kS.below hb3 kS.lt
  replace kP := kP.below hb3 kP.lt
  replace kB := kB.below hb3 kB.lt
  clear hov s0 s1 s2 s3 hb1 hb2 hb3 b1 b2 b3
  go_upto_region 8 with fail
  obtain ⟨W3, hW⟩ : ∃ X, w3.alloc (.cells #[.int .i64 3, .int .i64 1, .int .i64 1, .string urS, .slice Av 1 cv] 57) = X := ⟨_, rfl⟩
  have hb4 : Below w3.heap.size w3 W3 := by rw [← hW]; exact (Below.refl _ _).alloc (Nat.le_refl _) _
  have kF : Bk W3 w3.heap.size 57 #[.int .i64 3, .int .i64 1, .int .i64 1, .string urS, .slice Av 1 cv] := by rw [← hW]; exact Bk.new _ _ _
  first
  | rw [hW]
  | rw [show w3.alloc (.cells #[.int .i64 (ft [⟨3, 1, 1, urS, fpA, 1, fpc, [1]⟩] 0).id, .int .i64 (ft [⟨3, 1, 1, urS, fpA, 1, fpc, [1]⟩] 0).kind, .int .i64 (ft [⟨3, 1, 1, urS, fpA, 1, fpc, [1]⟩] 0).cls, .string (ft [⟨3, 1, 1, urS, fpA, 1, fpc, [1]⟩] 0).name, .slice Av (ft [⟨3, 1, 1, urS, fpA, 1, fpc, [1]⟩] 0).parts.length cv] 57) = W3 from hW]
  clear hW
  have b5 : Below w.heap.size w W3 := b4.trans (hb4.mono b4.size)
  replace kS := kS.below hb4 kS.lt
  replace kP := kP.below hb4 kP.lt
  replace kB := kB.below hb4 kB.lt
  have s0 := kS.cell 0
  have s1 := kS.cell 1
  have s2 := kS.cell 2
  have s3 := kS.cell 3
  have p0 := kP.cell 0
  have p1 := kP.cell 1
  have p2 := kP.cell 2
  have x0 := kB.cell 0
  have x1 := kB.cell 1
  have x2 := kB.cell 2
  have x3 := kB.cell 3
  have f0 := kF.cell 0
  have f1 := kF.cell 1
  have f2 := kF.cell 2
  have f3 := kF.cell 3
  have f4 := kF.cell 4
  simp only [List.getElem?_toArray, List.getElem?_cons_zero, List.getElem?_cons_succ] at s0 s1 s2 s3 p0 p1 p2 x0 x1 x2 x3 f0 f1 f2 f3 f4
  go_wp2_with fail
  refine (ccand_nil b off c bf of cf cv Av _).mono ?_
  first | rintro e w5 rfl hb5 | rintro e w5 ⟨rfl, hb5⟩
  have b6 : Below w.heap.size w w5 := b5.trans (hb5.mono b5.size)
  clear s0 s1 s2 s3 p0 p1 p2 x0 x1 x2 x3 f0 f1 f2 f3 f4
  go_wp2_with fail
  go_ret2
  exact ⟨rfl, b6⟩
end Go.Proofs.YtmmkgdindbdckaaGreatDoor
