/-
  gazetteer.Sheet at the example.
-/
import Derived.Test.YtcbobceggjndlaaGreatDoorGzM
set_option linter.unusedVariables false
set_option linter.unusedSimpArgs false
namespace Go.Proofs.YtcbobceggjndlaaGreatDoor
open Go.RowKit

def urS : ByteArray := ⟨#[85, 114]⟩
/-- The example's survey: one node, one town with a name; and its label. -/
structure ExG (w : World) (b bf bl : Nat) (f : Ftr) : Prop where
  n : RN w (some ⟨b, 0, none⟩) [⟨1, 3, 2⟩]
  g : RF w (some ⟨bf, 0, none⟩) [f]
  l : Bk w bl 51 #[.int .i64 7, .string ⟨#[85, 114]⟩, .int .i64 0, .int .i64 0, .int .i64 0, .int .i64 0, .int .i64 3, .int .i64 2]
  i : f.id = 7
  k : f.kind = 1
  c : f.cls = 1
  s : f.name = urS
  p : f.parts = [1]
  pn : f.pn = 1
theorem ExG.below {w w' : World} {b bf bl : Nat} {f : Ftr} (h : ExG w b bf bl f) (hb : Below w.heap.size w w') : ExG w' b bf bl f :=
  ⟨h.n.below hb, h.g.below hb, h.l.below hb h.l.lt, h.i, h.k, h.c, h.s, h.p, h.pn⟩
theorem ur_ok : Nm.check urS.data.toList = 0 := by decide +kernel
theorem one_lt {P : Nat → Prop} (h : P 0) : ∀ k, k < 1 → P k := fun k hk => (show k = 0 by omega) ▸ h
theorem ExG.check {w : World} {b bf bl : Nat} {f : Ftr} (h : ExG w b bf bl f) (ht : Gl.Tab w) (hm : MaxOk w) :
    Calls Tryz.prog 19 #[.agg #[.slice (some ⟨b, 0, none⟩) 1 1, .slice none 0 0, .slice none 0 0, .slice (some ⟨bf, 0, none⟩) 1 1]] w fun e w' => e = .returned (.int .i64 0) ∧ Below w.heap.size w w' :=
  fcheck_ok [⟨1, 3, 2⟩] [f] _ _ 1 1 1 1 w rfl (Nat.le_refl _) h.n
    { few := by decide, asc := fun i hi => absurd hi (by simp [ids]), inn := one_lt (by decide), placed := one_lt (by decide), apart := fun i j hj hi => absurd hj (by simp at hi; omega) } rfl h.g
    { few := by simp, one := one_lt h.pn, idr := one_lt (by show 1 ≤ f.id ∧ f.id ≤ 1073741824 ∧ 1 ≤ f.cls ∧ f.cls ≤ 9; rw [h.i, h.c]; decide), kind := one_lt (Or.inl h.k), nam := one_lt (by show NameOk f.name; rw [h.s]; exact Or.inr ⟨by decide, by decide, ur_ok⟩),
      part := one_lt ⟨0, 1, by decide, h.p, rfl, fun j hj => absurd hj (by omega)⟩, asc := fun k h0 hk => absurd h0 (by simp at hk; omega), alone := fun j k hj hk => absurd hj (by simp at hk; omega) } ht hm
theorem ExG.find {w : World} {b bf bl : Nat} {f : Ftr} (h : ExG w b bf bl f) :
    Calls Tryz.prog 21 #[.agg #[.slice (some ⟨b, 0, none⟩) 1 1, .slice none 0 0, .slice none 0 0, .slice (some ⟨bf, 0, none⟩) 1 1], .int .i64 7] w fun e w' => (∃ v, e = .returned (.tuple #[.agg #[.int .i64 7, .int .i64 1, .int .i64 1, .string ⟨#[85, 114]⟩, v], .bool true]) ∧ ∃ A n c, v = .slice A n c) ∧ Below w.heap.size w w' := by
  refine (ffind_hit [f] _ 1 1 0 _ _ _ 7 w rfl (by omega) h.g (by omega) h.i (fun j hj => absurd hj (by omega)) (by show 0 < f.pn; rw [h.pn]; omega) (by show f.pn ≤ 1000000; rw [h.pn]; omega)).mono ?_
  rintro e w1 ⟨v, rfl, ho, hb⟩
  refine ⟨⟨v, ?_, ?_⟩, hb⟩
  · show Ending.returned (.tuple #[.agg #[.int .i64 f.id, .int .i64 f.kind, .int .i64 f.cls, .string f.name, v], .bool true]) = _
    rw [h.i, h.k, h.c, h.s]; rfl
  · obtain ⟨h1, h2⟩ := ho
    rcases h2 with ⟨rfl, hn⟩ | ⟨g, cap, cur, rfl, _⟩
    · exact ⟨_, _, _, rfl⟩
    · exact ⟨_, _, _, rfl⟩
/-- The entries of a sheet, and no error. -/
def SheetPost (es : List Ent) (w : World) (e : Ending) (w' : World) : Prop := ∃ v, e = .returned (.tuple #[v, .int .i64 0]) ∧ OE w' w.heap.size v es ∧ Below w.heap.size w w'
set_option maxHeartbeats 16000000 in
set_option maxRecDepth 4000 in
theorem sheet_ex (b bf bl : Nat) (f : Ftr) (w : World) (h : ExG w b bf bl f) (hk : Kn w.heap.size w) :
    Calls Tryz.prog 8 #[.agg #[.slice (some ⟨b, 0, none⟩) 1 1, .slice none 0 0, .slice none 0 0, .slice (some ⟨bf, 0, none⟩) 1 1], .agg #[.int .i64 0, .int .i64 0, .int .i64 16, .int .i64 16, .int .i64 2, .int .i64 1], .slice (some ⟨bl, 0, none⟩) 1 1, .int .i64 1] w (SheetPost [exA] w) := by
  have H := Lib.hid h
  have HK := Lib.hid hk
  clear h hk
  go_enter Tryz.func8, Tryz.ntmps8
  go_upto_region 1 with fail
  obtain ⟨W1, hW⟩ : ∃ X, (w.alloc (.cells #[.slice (some ⟨b, 0, none⟩) 1 1, .slice none 0 0, .slice none 0 0, .slice (some ⟨bf, 0, none⟩) 1 1] 43)).alloc (.cells #[.int .i64 0, .int .i64 0, .int .i64 16, .int .i64 16, .int .i64 2, .int .i64 1] 47) = X := ⟨_, rfl⟩
  have b1 : Below w.heap.size w W1 := by rw [← hW]; exact ((Below.refl _ _).alloc (Nat.le_refl _) _).alloc (by simp) _
  have kS : Bk W1 w.heap.size 43 #[.slice (some ⟨b, 0, none⟩) 1 1, .slice none 0 0, .slice none 0 0, .slice (some ⟨bf, 0, none⟩) 1 1] := by rw [← hW]; exact (Bk.new _ _ _).alloc _
  have kE : Bk W1 (w.heap.size + 1) 47 #[.int .i64 0, .int .i64 0, .int .i64 16, .int .i64 16, .int .i64 2, .int .i64 1] := by rw [← hW]; exact Bk.newAt (by simp) _ _
  rw [hW]
  clear hW
  have lS := kS.lt
  have lE := kE.lt
  have s0 := kS.cell 0
  have s1 := kS.cell 1
  have s2 := kS.cell 2
  have s3 := kS.cell 3
  simp only [List.getElem?_toArray, List.getElem?_cons_zero, List.getElem?_cons_succ] at s0 s1 s2 s3
  go_wp2_with (go_at_call 19; refine ((H.out.below b1).check (HK.out.below b1).tab (HK.out.below b1).max).mono ?_)
  clear s0 s1 s2 s3
  first | rintro e w2 rfl hb2 | rintro e w2 ⟨rfl, hb2⟩
  have b2 := b1.trans (hb2.mono b1.size)
  have kS2 := kS.below hb2 lS
  have kE2 := kE.below hb2 lE
  have e0 := kE2.cell 0
  have e1 := kE2.cell 1
  have e2 := kE2.cell 2
  have e3 := kE2.cell 3
  have e4 := kE2.cell 4
  have e5 := kE2.cell 5
  simp only [List.getElem?_toArray, List.getElem?_cons_zero, List.getElem?_cons_succ] at e0 e1 e2 e3 e4 e5
  go_wp2_with (go_at_call 20; refine (sgbox_ex _).mono ?_)
  clear e0 e1 e2 e3 e4 e5
  rintro e w3 ⟨⟨v3, rfl⟩, hb3⟩
  have b3 := b2.trans (hb3.mono b2.size)
  have kS3 := kS2.below hb3 kS2.lt
  have kE3 := kE2.below hb3 kE2.lt
  have kL3 := (H.out.below b3).l
  go_wp2_with fail
  refine wp_loop_rounds 2 ?_
  rw [rounds_succ]
  have l0 := kL3.cell 0
  have l1 := kL3.cell 1
  have l2 := kL3.cell 2
  have l3 := kL3.cell 3
  have l4 := kL3.cell 4
  have l5 := kL3.cell 5
  have l6 := kL3.cell 6
  have l7 := kL3.cell 7
  simp only [List.getElem?_toArray, List.getElem?_cons_zero, List.getElem?_cons_succ] at l0 l1 l2 l3 l4 l5 l6 l7
  go_upto_region 10 with fail
  clear l0 l1 l2 l3 l4 l5 l6 l7 kL3
  obtain ⟨W4, hW⟩ : ∃ X, w3.alloc (.cells #[.int .i64 7, .string ⟨#[85, 114]⟩, .int .i64 0, .int .i64 0, .int .i64 0, .int .i64 0, .int .i64 3, .int .i64 2] 51) = X := ⟨_, rfl⟩
  have hb4 : Below w3.heap.size w3 W4 := by rw [← hW]; exact (Below.refl _ _).alloc (Nat.le_refl _) _
  have kX : Bk W4 w3.heap.size 51 #[.int .i64 7, .string ⟨#[85, 114]⟩, .int .i64 0, .int .i64 0, .int .i64 0, .int .i64 0, .int .i64 3, .int .i64 2] := by rw [← hW]; exact Bk.new _ _ _
  rw [hW]
  clear hW
  have b4 := b3.trans (hb4.mono b3.size)
  have kS4 := kS3.below hb4 kS3.lt
  have kE4 := kE3.below hb4 kE3.lt
  have s0 := kS4.cell 0
  have s1 := kS4.cell 1
  have s2 := kS4.cell 2
  have s3 := kS4.cell 3
  have x0 := kX.cell 0
  simp only [List.getElem?_toArray, List.getElem?_cons_zero, List.getElem?_cons_succ] at s0 s1 s2 s3 x0
  go_wp2_with (go_at_call 21; refine ((H.out.below b4).find).mono ?_)
  clear s0 s1 s2 s3 x0 kS kE kS2 kE2 kS3 kE3
  rintro e w5 ⟨⟨v5, rfl, A5, n5, c5, rfl⟩, hb5⟩
  have b5 := b4.trans (hb5.mono b4.size)
  have kX5 := kX.below hb5 kX.lt
  have kE5 := kE4.below hb5 kE4.lt
  go_upto_region 13 with fail
  obtain ⟨W6, hW⟩ : ∃ X, w5.alloc (.cells #[.int .i64 7, .int .i64 1, .int .i64 1, .string ⟨#[85, 114]⟩, .slice A5 n5 c5] 40) = X := ⟨_, rfl⟩
  have hb6 : Below w5.heap.size w5 W6 := by rw [← hW]; exact (Below.refl _ _).alloc (Nat.le_refl _) _
  have kF : Bk W6 w5.heap.size 40 #[.int .i64 7, .int .i64 1, .int .i64 1, .string ⟨#[85, 114]⟩, .slice A5 n5 c5] := by rw [← hW]; exact Bk.new _ _ _
  rw [hW]
  clear hW
  have b6 := b5.trans (hb6.mono b5.size)
  have kX6 := kX5.below hb6 kX5.lt
  have kE6 := kE5.below hb6 kE5.lt
  have x1 := kX6.cell 1
  have f3 := kF.cell 3
  simp only [List.getElem?_toArray, List.getElem?_cons_zero, List.getElem?_cons_succ] at x1 f3
  go_upto_region 15 with fail
  clear x1 f3
  have e0 := kE6.cell 0
  have e1 := kE6.cell 1
  have e2 := kE6.cell 2
  have e3 := kE6.cell 3
  have e4 := kE6.cell 4
  have e5 := kE6.cell 5
  have x6 := kX6.cell 6
  have x7 := kX6.cell 7
  simp only [List.getElem?_toArray, List.getElem?_cons_zero, List.getElem?_cons_succ] at e0 e1 e2 e3 e4 e5 x6 x7
  go_wp2_with (go_at_call 22; refine (grsquare_ex _).mono ?_)
  clear e0 e1 e2 e3 e4 e5 x6 x7
  first | rintro e w7 rfl hb7 | rintro e w7 ⟨rfl, hb7⟩
  have b7 := b6.trans (hb7.mono b6.size)
  have kX7 := kX6.below hb7 kX6.lt
  have x0 := kX7.cell 0
  have x1 := kX7.cell 1
  simp only [List.getElem?_toArray, List.getElem?_cons_zero, List.getElem?_cons_succ] at x0 x1
  have hs7 := b7.size
  go_wp2_with (at_builtin; refine append_ent rfl _ _ rfl w7 w.heap.size (.slice none 0 0) [] exA rfl (OE.nil _ _) w7.heap.size rfl rfl (by simp) hs7 ?_; intro v8 w8 ho8 hb8 hg8)
  have b8 := b7.trans hb8
  have HO8 := Lib.hid ho8
  clear ho8
  rw [rounds_succ]
  go_wp2_with (go_at_call 23; refine (set_ex1 v8 _ w.heap.size (HK.out.below b8) b8.size HO8.out).mono ?_)
  rintro e w9 ⟨v9, rfl, ho9, hb9⟩
  go_wp2_with fail
  refine bodyPost_ret (v := .tuple #[v9, .int .i64 0]) (by simp [results, Tryz.results8, go_sem]) rfl ?_
  exact ⟨v9, rfl, ho9, b8.trans hb9⟩
end Go.Proofs.YtcbobceggjndlaaGreatDoor
