/-
  Candidates: Anchors and Feature at the example of the chapter.
-/
import Derived.Test.YtmmkgdindbdckaaGreatDoorCaC
set_option linter.unusedVariables false
set_option linter.unusedSimpArgs false
namespace Go.Proofs.YtmmkgdindbdckaaGreatDoor
open Go.RowKit

set_option maxHeartbeats 8000000 in
theorem cpoint_none (m : Nd) (b off c nF cF cp : Nat) (AF AP : Option Addr) (fid kind cls : Int) (name : ByteArray) (w : World) (hA : RN w (some ⟨b, off, none⟩) [m]) (hP : RI w AP [m.id]) :
    Calls Tryz.prog 32 #[.agg #[.slice (some ⟨b, off, none⟩) 1 c, .slice none 0 0, .slice none 0 0, .slice AF nF cF], .agg #[.int .i64 0, .slice none 0 0, .slice none 0 0], .agg #[.int .i64 fid, .int .i64 kind, .int .i64 cls, .string name, .slice AP 1 cp]] w (AnchPost none w) := by
  obtain ⟨bp, op, rfl, hbp, hcp⟩ := hP 0 (by simp)
  have cp0 : w.cell? ⟨bp, op, none⟩ = some (.int .i64 m.id) := hcp 0 (by simp)
  go_enter Tryz.func32, Tryz.ntmps32
  go_wp2_with fail
  obtain ⟨W1, hW⟩ : ∃ X, ((w.alloc (.cells #[.slice (some ⟨b, off, none⟩) 1 c, .slice none 0 0, .slice none 0 0, .slice AF nF cF] 42)).alloc (.cells #[.int .i64 0, .slice none 0 0, .slice none 0 0] 46)).alloc (.cells #[.int .i64 fid, .int .i64 kind, .int .i64 cls, .string name, .slice (some ⟨bp, op, none⟩) 1 cp] 57) = X := ⟨_, rfl⟩
  have b1 : Below w.heap.size w W1 := by rw [← hW]; exact (((Below.refl _ _).alloc (Nat.le_refl _) _).alloc (by simp) _).alloc (by simp; omega) _
  have kS : Bk W1 w.heap.size 42 #[.slice (some ⟨b, off, none⟩) 1 c, .slice none 0 0, .slice none 0 0, .slice AF nF cF] := by rw [← hW]; exact ((Bk.new _ _ _).alloc _).alloc _
  have kP : Bk W1 (w.heap.size + 1) 46 #[.int .i64 0, .slice none 0 0, .slice none 0 0] := by rw [← hW]; exact (Bk.newAt (by simp) _ _).alloc _
  rw [hW]
  clear hW
  have d0 := (b1.cell (p := ⟨bp, op, none⟩) hbp).trans cp0
  have s0 : W1.cell? ⟨w.heap.size, 0, none⟩ = some (.slice (some ⟨b, off, none⟩) 1 c) := kS.cell 0
  have s1 : W1.cell? ⟨w.heap.size, 1, none⟩ = some (.slice none 0 0) := kS.cell 1
  have s2 : W1.cell? ⟨w.heap.size, 2, none⟩ = some (.slice none 0 0) := kS.cell 2
  clear hcp cp0
  refine wp_loop_rounds 2 ?_
  rw [rounds_succ]
  go_wp2_with fail
  refine (node_any (some ⟨b, off, none⟩) c 1 [m] _ _ m.id 0 _ rfl (hA.below b1) (by omega) (by omega) rfl (fun j hj => absurd hj (by omega))).mono ?_
  first | rintro e w2 rfl hb2 | rintro e w2 ⟨rfl, hb2⟩
  have b2 : Below w.heap.size w w2 := b1.trans (hb2.mono b1.size)
  have kP2 := kP.below hb2 kP.lt
  clear s0 s1 s2 d0 kS kP hb2
  go_upto_region 5 with fail
  obtain ⟨W3, hW⟩ : ∃ X, w2.alloc (.cells #[.int .i64 m.id, .int .i64 m.x, .int .i64 m.y] 55) = X := ⟨_, rfl⟩
  have hb3 : Below w2.heap.size w2 W3 := by rw [← hW]; exact (Below.refl _ _).alloc (Nat.le_refl _) _
  have kN : Bk W3 w2.heap.size 55 #[.int .i64 m.id, .int .i64 m.x, .int .i64 m.y] := by rw [← hW]; exact Bk.new _ _ _
  rw [show w2.alloc (.cells #[.int .i64 (nd [m] 0).id, .int .i64 (nd [m] 0).x, .int .i64 (nd [m] 0).y] 55) = W3 from hW]
  clear hW
  have b3 : Below w.heap.size w W3 := b2.trans (hb3.mono b2.size)
  have kP3 := kP2.below hb3 kP2.lt
  have n0 := kN.cell 0
  have n1 := kN.cell 1
  have n2 := kN.cell 2
  simp only [List.getElem?_toArray, List.getElem?_cons_zero, List.getElem?_cons_succ] at n0 n1 n2
  have p2 : W3.cell? ⟨w.heap.size + 1, 2, none⟩ = some (.slice none 0 0) := kP3.cell 2
  go_wp2_with fail
  refine (containsN_nil m.id m.x m.y _).mono ?_
  first | rintro e w4 rfl hb4 | rintro e w4 ⟨rfl, hb4⟩
  have b4 : Below w.heap.size w w4 := b3.trans (hb4.mono b3.size)
  clear n0 n1 n2 p2
  go_wp2_with fail
  rw [rounds_succ]
  go_wp2_with fail
  go_ret
  exact ⟨b4, rfl⟩

/-- The part of the sheet: with the node, or empty. -/
def prtV (o : Bool) (b off c : Nat) : Array Value := if o then #[.int .i64 1, .slice none 0 0, .slice (some ⟨b, off, none⟩) 1 c] else #[.int .i64 0, .slice none 0 0, .slice none 0 0]
theorem cpoint_at (o : Bool) (m : Nd) (b off c nF cF cp : Nat) (AF AP : Option Addr) (fid kind cls : Int) (name : ByteArray) (w : World) (hA : RN w (some ⟨b, off, none⟩) [m]) (hP : RI w AP [m.id]) :
    Calls Tryz.prog 32 #[.agg #[.slice (some ⟨b, off, none⟩) 1 c, .slice none 0 0, .slice none 0 0, .slice AF nF cF], .agg (prtV o b off c), .agg #[.int .i64 fid, .int .i64 kind, .int .i64 cls, .string name, .slice AP 1 cp]] w (AnchPost (if o then some (m.x, m.y) else none) w) := by
  cases o
  · exact cpoint_none m b off c nF cF cp AF AP fid kind cls name w hA hP
  · exact cpoint_hit m b off 1 c nF cF cp AF AP 1 fid kind cls name w rfl hA hP
theorem AnchPost.below {o : Option (Int × Int)} {w0 w : World} {e : Ending} {w' : World} (h : AnchPost o w e w') (hb : Below w0.heap.size w0 w) : AnchPost o w0 e w' := ⟨hb.trans (h.1.mono hb.size), h.2⟩
set_option maxHeartbeats 8000000 in
theorem canch_at (o : Bool) (m : Nd) (b off c nF cF cp : Nat) (AF AP : Option Addr) (fid cls : Int) (name : ByteArray) (w : World) (hA : RN w (some ⟨b, off, none⟩) [m]) (hP : RI w AP [m.id]) :
    Calls Tryz.prog 15 #[.agg #[.slice (some ⟨b, off, none⟩) 1 c, .slice none 0 0, .slice none 0 0, .slice AF nF cF], .agg (prtV o b off c), .agg #[.int .i64 fid, .int .i64 1, .int .i64 cls, .string name, .slice AP 1 cp]] w (AnchPost (if o then some (m.x, m.y) else none) w) := by
  have HP := Lib.hid (fun W hb => cpoint_at o m b off c nF cF cp AF AP fid 1 cls name W (RN.below hA hb) (RI.below hP hb))
  clear hA hP
  cases o
  · unfold prtV at *
    simp only [if_false, Bool.false_eq_true] at *
    go_enter Tryz.func15, Tryz.ntmps15
    go_wp2_with fail
    refine (shape_point 1 _ (Or.inl rfl)).mono ?_
    first | rintro e w1 rfl rfl | rintro e w1 ⟨rfl, rfl⟩
    go_wp2_with fail
    refine (HP.out _ (by go_grown)).mono ?_
    rintro e w2 ⟨hb, rfl⟩
    have b2 : Below w.heap.size w w2 := Below.trans (by go_grown) (hb.mono (by simp; omega) : Below w.heap.size _ w2)
    go_wp2_with fail
    go_ret
    exact ⟨b2, rfl⟩
  · unfold prtV at *
    simp only [if_true] at *
    go_enter Tryz.func15, Tryz.ntmps15
    go_wp2_with fail
    refine (shape_point 1 _ (Or.inl rfl)).mono ?_
    first | rintro e w1 rfl rfl | rintro e w1 ⟨rfl, rfl⟩
    go_wp2_with fail
    refine (HP.out _ (by go_grown)).mono ?_
    rintro e w2 ⟨hb, g, cap, rfl, h1, h2, h3⟩
    have b2 : Below w.heap.size w w2 := Below.trans (by go_grown) (hb.mono (by simp; omega) : Below w.heap.size _ w2)
    have HC := Lib.hid (And.intro h2 h3)
    clear h2 h3
    go_wp2_with fail
    go_ret
    exact ⟨b2, g, cap, rfl, h1, HC.out.1, HC.out.2⟩

/-- The example's survey: one node, one town with a name. -/
def exV (b off c bf of cf : Nat) : Array Value := #[.slice (some ⟨b, off, none⟩) 1 c, .slice none 0 0, .slice none 0 0, .slice (some ⟨bf, of, none⟩) 1 cf]
def urS : ByteArray := ⟨#[85, 114]⟩
structure Ex (w : World) (b off bf of : Nat) (f : Ftr) : Prop where
  n : RN w (some ⟨b, off, none⟩) [⟨1, 10, 10⟩]
  g : RF w (some ⟨bf, of, none⟩) [f]
  t : Gl.Tab w
  m : MaxOk w
  i : f.id = 3
  k : f.kind = 1
  c : f.cls = 1
  s : f.name = urS
  p : f.parts = [1]
  pn : f.pn = 1
theorem Ex.below {w w' : World} {b off bf of : Nat} {f : Ftr} (h : Ex w b off bf of f) (hb : Below w.heap.size w w') : Ex w' b off bf of f :=
  ⟨h.n.below hb, h.g.below hb, h.t.below hb (Nat.le_refl _), h.m.below hb (Nat.le_refl _), h.i, h.k, h.c, h.s, h.p, h.pn⟩
theorem ur_ok : Nm.check urS.data.toList = 0 := by decide +kernel
theorem one_lt {P : Nat → Prop} (h : P 0) : ∀ k, k < 1 → P k := fun k hk => (show k = 0 by omega) ▸ h
theorem Ex.check {w : World} {b off bf of : Nat} {f : Ftr} (h : Ex w b off bf of f) (c cf : Nat) (hc : 1 ≤ c) :
    Calls Tryz.prog 13 #[.agg (exV b off c bf of cf)] w fun e w' => e = .returned (.int .i64 0) ∧ Below w.heap.size w w' :=
  fcheck_ok [⟨1, 10, 10⟩] [f] _ _ 1 c 1 cf w rfl hc h.n
    { few := by decide, asc := fun i hi => absurd hi (by simp [ids]), inn := one_lt (by decide), placed := one_lt (by decide), apart := fun i j hj hi => absurd hj (by simp at hi; omega) } rfl h.g
    { few := by simp, one := one_lt h.pn, idr := one_lt (by show 1 ≤ f.id ∧ f.id ≤ 1073741824 ∧ 1 ≤ f.cls ∧ f.cls ≤ 9; rw [h.i, h.c]; decide), kind := one_lt (Or.inl h.k), nam := one_lt (by show NameOk f.name; rw [h.s]; exact Or.inr ⟨by decide, by decide, ur_ok⟩),
      part := one_lt ⟨0, 1, by decide, h.p, rfl, fun j hj => absurd hj (by omega)⟩, asc := fun k h0 hk => absurd h0 (by simp at hk; omega), alone := fun j k hj hk => absurd hj (by simp at hk; omega) } h.t h.m
/-- A list and an error. -/
def AnchPost2 (o : Option (Int × Int)) (er : Int) (w : World) (e : Ending) (w' : World) : Prop := ∃ v, e = .returned (.tuple #[v, .int .i64 er]) ∧ AnchPost o w (.returned v) w'
theorem exV_at (b off c bf of cf : Nat) : exV b off c bf of cf = #[.slice (some ⟨b, off, none⟩) 1 c, .slice none 0 0, .slice none 0 0, .slice (some ⟨bf, of, none⟩) 1 cf] := rfl

set_option maxHeartbeats 8000000 in
theorem canchors_miss (o : Bool) (b off c bf of cf : Nat) (f : Ftr) (id : Int) (w : World) (h : Ex w b off bf of f) (hc : 1 ≤ c) (hid : id ≠ 3) :
    Calls Tryz.prog 11 #[.agg (exV b off c bf of cf), .agg (prtV o b off c), .int .i64 id] w fun e w' => e = .returned (.tuple #[.slice none 0 0, .int .i64 7]) ∧ Below w.heap.size w w' := by
  have H := Lib.hid h
  have HCK := Lib.hid (fun W hb => Ex.check (Ex.below h hb : Ex W b off bf of f) c cf hc)
  have HFN := Lib.hid (fun W (hb : Below w.heap.size w W) => ffind_none [f] (some ⟨bf, of, none⟩) 1 cf (.slice (some ⟨b, off, none⟩) 1 c) (.slice none 0 0) (.slice none 0 0) id W rfl (by omega) (h.g.below hb) (one_lt (by show f.id ≠ id; rw [h.i]; exact fun e => hid e.symm)))
  clear h hid
  simp only [exV_at] at *
  cases o
  all_goals (
    simp only [prtV, if_true, if_false, Bool.false_eq_true] at *
    go_enter Tryz.func11, Tryz.ntmps11
    go_wp2_with fail
    refine (HCK.out _ (by go_grown)).mono ?_
    first | rintro e w1 rfl hb1 | rintro e w1 ⟨rfl, hb1⟩
    have b1 : Below w.heap.size w w1 := Below.trans (by go_grown) (hb1.mono (by simp; omega) : Below w.heap.size _ w1)
    have hcc := fun (b' o' : Nat) (h' : b' < _) => hb1.cell (p := ⟨b', o', none⟩) h'
    go_wp2_with fail
    refine (HFN.out _ b1).mono ?_
    first | rintro e w2 rfl hb2 | rintro e w2 ⟨rfl, hb2⟩
    have b2 : Below w.heap.size w w2 := b1.trans (hb2.mono b1.size)
    clear hcc
    go_wp2_with fail
    go_ret2
    refine ⟨rfl, ?_⟩
    have z2 := b2.size
    go_grown)

set_option maxHeartbeats 8000000 in
theorem canchors_hit (o : Bool) (b off c bf of cf : Nat) (f : Ftr) (w : World) (h : Ex w b off bf of f) (hc : 1 ≤ c) :
    Calls Tryz.prog 11 #[.agg (exV b off c bf of cf), .agg (prtV o b off c), .int .i64 3] w (AnchPost2 (if o then some (10, 10) else none) 0 w) := by
  obtain ⟨fid, fkind, fcls, fname, fpA, fpn, fpc, fparts⟩ := f
  obtain rfl : fid = 3 := h.i
  obtain rfl : fkind = 1 := h.k
  obtain rfl : fcls = 1 := h.c
  obtain rfl : fname = urS := h.s
  obtain rfl : fparts = [1] := h.p
  obtain rfl : fpn = 1 := h.pn
  have HCK := Lib.hid (fun W hb => Ex.check (Ex.below h hb : Ex W b off bf of _) c cf hc)
  have HFN := Lib.hid (fun W (hb : Below w.heap.size w W) => ffind_hit [⟨3, 1, 1, urS, fpA, 1, fpc, [1]⟩] (some ⟨bf, of, none⟩) 1 cf 0 (.slice (some ⟨b, off, none⟩) 1 c) (.slice none 0 0) (.slice none 0 0) 3 W rfl (by omega) (h.g.below hb) (by omega) rfl (fun j hj => absurd hj (by omega)) (by show 0 < 1; omega) (by show 1 ≤ 1000000; omega))
  have HNN := Lib.hid h.n
  clear h
  have HAN := Lib.hid (fun AP cp W (hn : RN W (some ⟨b, off, none⟩) [⟨1, 10, 10⟩]) (hp : RI W AP [1]) => canch_at o ⟨1, 10, 10⟩ b off c 1 cf cp (some ⟨bf, of, none⟩) AP 3 1 urS W hn hp)
  simp only [exV_at] at *
  cases o
  · simp only [prtV, if_true, if_false, Bool.false_eq_true] at *
    go_enter Tryz.func11, Tryz.ntmps11
    go_wp2_with fail
    obtain ⟨W1, hW⟩ : ∃ X, (w.alloc (.cells #[.slice (some ⟨b, off, none⟩) 1 c, .slice none 0 0, .slice none 0 0, .slice (some ⟨bf, of, none⟩) 1 cf] 42)).alloc (.cells #[.int .i64 0, .slice none 0 0, .slice none 0 0] 46) = X := ⟨_, rfl⟩
    have b1 : Below w.heap.size w W1 := by rw [← hW]; exact ((Below.refl _ _).alloc (Nat.le_refl _) _).alloc (by simp) _
    have kS : Bk W1 w.heap.size 42 #[.slice (some ⟨b, off, none⟩) 1 c, .slice none 0 0, .slice none 0 0, .slice (some ⟨bf, of, none⟩) 1 cf] := by rw [← hW]; exact (Bk.new _ _ _).alloc _
    have kP : Bk W1 (w.heap.size + 1) 46 #[.int .i64 0, .slice none 0 0, .slice none 0 0] := by rw [← hW]; exact Bk.newAt (by simp) _ _
    rw [hW]
    clear hW
    refine (HCK.out _ b1).mono ?_
    first | rintro e w1 rfl hb1 | rintro e w1 ⟨rfl, hb1⟩
    have b2 : Below w.heap.size w w1 := b1.trans (hb1.mono b1.size)
    replace kS := kS.below hb1 kS.lt
    replace kP := kP.below hb1 kP.lt
    have s0 := kS.cell 0
    have s1 := kS.cell 1
    have s2 := kS.cell 2
    have s3 := kS.cell 3
    simp only [List.getElem?_toArray, List.getElem?_cons_zero, List.getElem?_cons_succ] at s0 s1 s2 s3
    go_wp2_with fail
    refine (HFN.out _ b2).mono ?_
    rintro e w2 ⟨v, rfl, hov, hb2⟩
    obtain ⟨Av, cv, rfl, _, _, hRI⟩ := hov.form
    have b3 : Below w.heap.size w w2 := b2.trans (hb2.mono b2.size)
    replace kS := kS.below hb2 kS.lt
    replace kP := kP.below hb2 kP.lt
    have HRI := Lib.hid hRI
    clear hov hRI s0 s1 s2 s3 hb1 hb2 b1 b2
    go_upto_region 5 with fail
    obtain ⟨W3, hW⟩ : ∃ X, w2.alloc (.cells #[.int .i64 3, .int .i64 1, .int .i64 1, .string urS, .slice Av 1 cv] 57) = X := ⟨_, rfl⟩
    have hb3 : Below w2.heap.size w2 W3 := by rw [← hW]; exact (Below.refl _ _).alloc (Nat.le_refl _) _
    have kF : Bk W3 w2.heap.size 57 #[.int .i64 3, .int .i64 1, .int .i64 1, .string urS, .slice Av 1 cv] := by rw [← hW]; exact Bk.new _ _ _
    first
    | rw [hW]
    | rw [show w2.alloc (.cells #[.int .i64 (ft [⟨3, 1, 1, urS, fpA, 1, fpc, [1]⟩] 0).id, .int .i64 (ft [⟨3, 1, 1, urS, fpA, 1, fpc, [1]⟩] 0).kind, .int .i64 (ft [⟨3, 1, 1, urS, fpA, 1, fpc, [1]⟩] 0).cls, .string (ft [⟨3, 1, 1, urS, fpA, 1, fpc, [1]⟩] 0).name, .slice Av (ft [⟨3, 1, 1, urS, fpA, 1, fpc, [1]⟩] 0).parts.length cv] 57) = W3 from hW]
    clear hW
    have b4 : Below w.heap.size w W3 := b3.trans (hb3.mono b3.size)
    replace kS := kS.below hb3 kS.lt
    replace kP := kP.below hb3 kP.lt
    have s0 := kS.cell 0
    have s1 := kS.cell 1
    have s2 := kS.cell 2
    have s3 := kS.cell 3
    have p0 := kP.cell 0
    have p1 := kP.cell 1
    have p2 := kP.cell 2
    have f0 := kF.cell 0
    have f1 := kF.cell 1
    have f2 := kF.cell 2
    have f3 := kF.cell 3
    have f4 := kF.cell 4
    simp only [List.getElem?_toArray, List.getElem?_cons_zero, List.getElem?_cons_succ] at s0 s1 s2 s3 p0 p1 p2 f0 f1 f2 f3 f4
    go_wp2_with fail
    refine (HAN.out Av cv _ (HNN.out.below b4) (RI.below HRI.out hb3)).mono ?_
    rintro e w3 ⟨hb4, rfl⟩
    have b5 : Below w.heap.size w w3 := b4.trans (hb4.mono b4.size)
    skip
    skip
    clear s0 s1 s2 s3 p0 p1 p2 f0 f1 f2 f3 f4
    go_wp2_with fail
    go_ret2
    exact ⟨_, rfl, b5, rfl⟩
  · simp only [prtV, if_true, if_false, Bool.false_eq_true] at *
    go_enter Tryz.func11, Tryz.ntmps11
    go_wp2_with fail
    obtain ⟨W1, hW⟩ : ∃ X, (w.alloc (.cells #[.slice (some ⟨b, off, none⟩) 1 c, .slice none 0 0, .slice none 0 0, .slice (some ⟨bf, of, none⟩) 1 cf] 42)).alloc (.cells #[.int .i64 1, .slice none 0 0, .slice (some ⟨b, off, none⟩) 1 c] 46) = X := ⟨_, rfl⟩
    have b1 : Below w.heap.size w W1 := by rw [← hW]; exact ((Below.refl _ _).alloc (Nat.le_refl _) _).alloc (by simp) _
    have kS : Bk W1 w.heap.size 42 #[.slice (some ⟨b, off, none⟩) 1 c, .slice none 0 0, .slice none 0 0, .slice (some ⟨bf, of, none⟩) 1 cf] := by rw [← hW]; exact (Bk.new _ _ _).alloc _
    have kP : Bk W1 (w.heap.size + 1) 46 #[.int .i64 1, .slice none 0 0, .slice (some ⟨b, off, none⟩) 1 c] := by rw [← hW]; exact Bk.newAt (by simp) _ _
    rw [hW]
    clear hW
    refine (HCK.out _ b1).mono ?_
    first | rintro e w1 rfl hb1 | rintro e w1 ⟨rfl, hb1⟩
    have b2 : Below w.heap.size w w1 := b1.trans (hb1.mono b1.size)
    replace kS := kS.below hb1 kS.lt
    replace kP := kP.below hb1 kP.lt
    have s0 := kS.cell 0
    have s1 := kS.cell 1
    have s2 := kS.cell 2
    have s3 := kS.cell 3
    simp only [List.getElem?_toArray, List.getElem?_cons_zero, List.getElem?_cons_succ] at s0 s1 s2 s3
    go_wp2_with fail
    refine (HFN.out _ b2).mono ?_
    rintro e w2 ⟨v, rfl, hov, hb2⟩
    obtain ⟨Av, cv, rfl, _, _, hRI⟩ := hov.form
    have b3 : Below w.heap.size w w2 := b2.trans (hb2.mono b2.size)
    replace kS := kS.below hb2 kS.lt
    replace kP := kP.below hb2 kP.lt
    have HRI := Lib.hid hRI
    clear hov hRI s0 s1 s2 s3 hb1 hb2 b1 b2
    go_upto_region 5 with fail
    obtain ⟨W3, hW⟩ : ∃ X, w2.alloc (.cells #[.int .i64 3, .int .i64 1, .int .i64 1, .string urS, .slice Av 1 cv] 57) = X := ⟨_, rfl⟩
    have hb3 : Below w2.heap.size w2 W3 := by rw [← hW]; exact (Below.refl _ _).alloc (Nat.le_refl _) _
    have kF : Bk W3 w2.heap.size 57 #[.int .i64 3, .int .i64 1, .int .i64 1, .string urS, .slice Av 1 cv] := by rw [← hW]; exact Bk.new _ _ _
    first
    | rw [hW]
    | rw [show w2.alloc (.cells #[.int .i64 (ft [⟨3, 1, 1, urS, fpA, 1, fpc, [1]⟩] 0).id, .int .i64 (ft [⟨3, 1, 1, urS, fpA, 1, fpc, [1]⟩] 0).kind, .int .i64 (ft [⟨3, 1, 1, urS, fpA, 1, fpc, [1]⟩] 0).cls, .string (ft [⟨3, 1, 1, urS, fpA, 1, fpc, [1]⟩] 0).name, .slice Av (ft [⟨3, 1, 1, urS, fpA, 1, fpc, [1]⟩] 0).parts.length cv] 57) = W3 from hW]
    clear hW
    have b4 : Below w.heap.size w W3 := b3.trans (hb3.mono b3.size)
    replace kS := kS.below hb3 kS.lt
    replace kP := kP.below hb3 kP.lt
    have s0 := kS.cell 0
    have s1 := kS.cell 1
    have s2 := kS.cell 2
    have s3 := kS.cell 3
    have p0 := kP.cell 0
    have p1 := kP.cell 1
    have p2 := kP.cell 2
    have f0 := kF.cell 0
    have f1 := kF.cell 1
    have f2 := kF.cell 2
    have f3 := kF.cell 3
    have f4 := kF.cell 4
    simp only [List.getElem?_toArray, List.getElem?_cons_zero, List.getElem?_cons_succ] at s0 s1 s2 s3 p0 p1 p2 f0 f1 f2 f3 f4
    go_wp2_with fail
    refine (HAN.out Av cv _ (HNN.out.below b4) (RI.below HRI.out hb3)).mono ?_
    rintro e w3 ⟨hb4, g, cap, rfl, g1, g2, g3⟩
    have b5 : Below w.heap.size w w3 := b4.trans (hb4.mono b4.size)
    have HG := Lib.hid (And.intro g1 (And.intro g2 g3))
    clear g1 g2 g3
    clear s0 s1 s2 s3 p0 p1 p2 f0 f1 f2 f3 f4
    go_wp2_with fail
    go_ret2
    exact ⟨_, rfl, b5, g, cap, rfl, HG.out.1, HG.out.2.1, HG.out.2.2⟩
end Go.Proofs.YtmmkgdindbdckaaGreatDoor
