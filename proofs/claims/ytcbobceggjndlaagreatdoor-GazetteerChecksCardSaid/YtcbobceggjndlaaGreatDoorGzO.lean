/-
  The examples of the gazetteer's chapter hold.
-/
import Derived.Test.YtcbobceggjndlaaGreatDoorGzN
set_option linter.unusedVariables false
set_option linter.unusedSimpArgs false
namespace Go.Proofs.YtcbobceggjndlaaGreatDoor
open Go.RowKit

/-- A list of n entries. -/
def LPost (n : Nat) (es : List Ent) (w : World) (e : Ending) (w' : World) : Prop := ∃ A c, e = .returned (.slice A n c) ∧ RE w' A es ∧ Below w.heap.size w w'
theorem OwnPost.l {B n : Nat} {es : List Ent} {w : World} (hB : w.heap.size ≤ B) (hn : es.length = n) {e : Ending} {w' : World} (h : OwnPost B es w e w') : LPost n es w e w' := by
  obtain ⟨v, rfl, ho, hb⟩ := h
  obtain ⟨A, c, rfl, _, hr⟩ := ho.form
  exact ⟨A, c, by rw [hn], hr, hb.mono hB⟩
theorem re_one (w : World) (x : Ent) (g : Nat) (hg : w.heap.size = g) : RE (w.alloc (.cells #[.string x.name, .int .i64 x.feat, .int .i64 x.sheet, .string x.sq] 29)) (some ⟨g, 0, none⟩) [x] := by
  subst hg
  have k := Bk.new w #[.string x.name, .int .i64 x.feat, .int .i64 x.sheet, .string x.sq] 29
  intro j hj
  refine ⟨_, 0, rfl, by simp, one_lt ⟨k.cell 0, k.cell 1, k.cell 2, k.cell 3⟩⟩
theorem re_two (w : World) (x y : Ent) (g : Nat) (hg : w.heap.size = g) : RE (w.alloc (.cells #[.string x.name, .int .i64 x.feat, .int .i64 x.sheet, .string x.sq, .string y.name, .int .i64 y.feat, .int .i64 y.sheet, .string y.sq] 29)) (some ⟨g, 0, none⟩) [x, y] := by
  subst hg
  have k := Bk.new w #[.string x.name, .int .i64 x.feat, .int .i64 x.sheet, .string x.sq, .string y.name, .int .i64 y.feat, .int .i64 y.sheet, .string y.sq] 29
  intro j hj
  refine ⟨_, 0, rfl, by simp, fun i hi => ?_⟩
  simp at hi
  match i, hi with
  | 0, _ => exact ⟨k.cell 0, k.cell 1, k.cell 2, k.cell 3⟩
  | 1, _ => exact ⟨k.cell 4, k.cell 5, k.cell 6, k.cell 7⟩
theorem short2 (x y : Bool) : Gz.Short [exE x, exE y] := by
  intro j hj
  simp at hj
  match j, hj with
  | 0, _ => cases x <;> cases y <;> exact ⟨by decide, by decide⟩
  | 1, _ => cases x <;> cases y <;> exact ⟨by decide, by decide⟩
theorem check_l (A : Option Addr) (c B : Nat) (w : World) (hk : Kn B w) (hA : RE w A [exA, exB]) : Calls Tryz.prog 6 #[.slice A 2 c] w fun e w' => e = .returned (.int .i64 0) ∧ Below w.heap.size w w' := by
  have h := zcheck_any A c 2 [exA, exB] w rfl (by decide) hA (short2 false true) hk.tab hk.max
  rwa [show Gz.check [exA, exB] = 0 by decide +kernel] at h
theorem check_ba (A : Option Addr) (c B : Nat) (w : World) (hk : Kn B w) (hA : RE w A [exB, exA]) : Calls Tryz.prog 6 #[.slice A 2 c] w fun e w' => e = .returned (.int .i64 10) ∧ Below w.heap.size w w' := by
  have h := zcheck_any A c 2 [exB, exA] w rfl (by decide) hA (short2 true false) hk.tab hk.max
  rwa [show Gz.check [exB, exA] = 10 by decide +kernel] at h
theorem merge_l (A1 A2 : Option Addr) (c1 c2 B : Nat) (w : World) (hk : Kn B w) (hB : B ≤ w.heap.size) (h1 : RE w A1 [exB]) (h2 : RE w A2 [exA, exB]) : Calls Tryz.prog 10 #[.slice A1 1 c1, .slice A2 2 c2] w (LPost 2 [exA, exB] w) :=
  (merge_ex A1 A2 c1 c2 w (hk.mono hB) h1 h2 (fun h => by obtain ⟨_, _, e, _⟩ := h1 0 (by decide); rw [h] at e; cases e) (fun h => by obtain ⟨_, _, e, _⟩ := h2 0 (by decide); rw [h] at e; cases e)).mono fun _ _ h => h.l (Nat.le_refl _) rfl
theorem find_u (A : Option Addr) (c B : Nat) (w : World) (hk : Kn B w) (hB : B ≤ w.heap.size) (hA : RE w A [exA, exB]) : Calls Tryz.prog 12 #[.slice A 2 c, .string ⟨#[117]⟩] w (LPost 2 [exA, exB] w) := by
  have h := find_any A c 2 [exA, exB] ⟨#[117]⟩ w rfl (by decide) hA (hk.mono hB) (fun j hj => (short2 false true j hj).1) (by decide)
  rw [show List.filter (acF ⟨#[117]⟩) [exA, exB] = [exA, exB] from by
    rw [List.filter_eq_self]; intro x hx; simp at hx; rcases hx with rfl | rfl <;> decide +kernel] at h
  exact h.mono fun _ _ h => h.l (Nat.le_refl _) rfl
theorem find_a (A : Option Addr) (c B : Nat) (w : World) (hk : Kn B w) (hB : B ≤ w.heap.size) (hA : RE w A [exA, exB]) : Calls Tryz.prog 12 #[.slice A 2 c, .string ⟨#[97]⟩] w (LPost 0 [] w) := by
  have h := find_any A c 2 [exA, exB] ⟨#[97]⟩ w rfl (by decide) hA (hk.mono hB) (fun j hj => (short2 false true j hj).1) (by decide)
  rw [show List.filter (acF ⟨#[97]⟩) [exA, exB] = [] from by
    rw [List.filter_eq_nil_iff]; intro x hx; simp at hx; rcases hx with rfl | rfl <;> decide +kernel] at h
  exact h.mono fun _ _ h => h.l (Nat.le_refl _) rfl
theorem without_1 (A : Option Addr) (c g : Nat) (w : World) (hg : g < w.heap.size) (hc : w.cell? ⟨g, 0, none⟩ = some (.int .i64 1)) (hA : RE w A [exA, exB]) : Calls Tryz.prog 11 #[.slice A 2 c, .slice (some ⟨g, 0, none⟩) 1 1] w (LPost 1 [exB] w) := by
  have h := without_any A c 2 [exA, exB] g 0 1 [1] w rfl (by decide) hA hg (one_lt hc) (by decide)
  rw [show List.filter (Gz.other [1]) [exA, exB] = [exB] from by rw [List.filter_cons_of_neg (by decide), List.filter_cons_of_pos (by decide)]; rfl] at h
  exact h.mono fun _ _ h => h.l (Nat.le_refl _) rfl
theorem same_a (A B : Option Addr) (c d : Nat) (w : World) (hA : RE w A [exA]) (hB : RE w B [exA]) : Calls Tryz.prog 9 #[.slice A 1 c, .slice B 1 d] w fun e w' => e = .returned (.bool true) ∧ Below w.heap.size w w' := same52_eq A B c d 1 [exA] w rfl (by decide) hA hB
theorem same_b (A B : Option Addr) (c d : Nat) (w : World) (hA : RE w A [exB]) (hB : RE w B [exB]) : Calls Tryz.prog 9 #[.slice A 1 c, .slice B 1 d] w fun e w' => e = .returned (.bool true) ∧ Below w.heap.size w w' := same52_eq A B c d 1 [exB] w rfl (by decide) hA hB
theorem same_l (A B : Option Addr) (c d : Nat) (w : World) (hA : RE w A [exA, exB]) (hB : RE w B [exA, exB]) : Calls Tryz.prog 9 #[.slice A 2 c, .slice B 2 d] w fun e w' => e = .returned (.bool true) ∧ Below w.heap.size w w' := same52_eq A B c d 2 [exA, exB] w rfl (by decide) hA hB
/-- What the region's calls lean on. -/
structure Le52 (WR : World) : Prop where
  kn : ∀ X, Below WR.heap.size WR X → Kn WR.heap.size X
theorem check_l' {WR : World} (h : Le52 WR) (A : Option Addr) (c : Nat) (w : World) (hb : Below WR.heap.size WR w) (hA : RE w A [exA, exB]) : Calls Tryz.prog 6 #[.slice A 2 c] w fun e w' => e = .returned (.int .i64 0) ∧ Below w.heap.size w w' := check_l A c _ w (h.kn w hb) hA
theorem check_ba' {WR : World} (h : Le52 WR) (A : Option Addr) (c : Nat) (w : World) (hb : Below WR.heap.size WR w) (hA : RE w A [exB, exA]) : Calls Tryz.prog 6 #[.slice A 2 c] w fun e w' => e = .returned (.int .i64 10) ∧ Below w.heap.size w w' := check_ba A c _ w (h.kn w hb) hA
theorem merge_l' {WR : World} (h : Le52 WR) (A1 A2 : Option Addr) (c1 c2 : Nat) (w : World) (hb : Below WR.heap.size WR w) (h1 : RE w A1 [exB]) (h2 : RE w A2 [exA, exB]) : Calls Tryz.prog 10 #[.slice A1 1 c1, .slice A2 2 c2] w (LPost 2 [exA, exB] w) := merge_l A1 A2 c1 c2 _ w (h.kn w hb) hb.size h1 h2
theorem find_u' {WR : World} (h : Le52 WR) (A : Option Addr) (c : Nat) (w : World) (hb : Below WR.heap.size WR w) (hA : RE w A [exA, exB]) : Calls Tryz.prog 12 #[.slice A 2 c, .string ⟨#[117]⟩] w (LPost 2 [exA, exB] w) := find_u A c _ w (h.kn w hb) hb.size hA
theorem find_a' {WR : World} (h : Le52 WR) (A : Option Addr) (c : Nat) (w : World) (hb : Below WR.heap.size WR w) (hA : RE w A [exA, exB]) : Calls Tryz.prog 12 #[.slice A 2 c, .string ⟨#[97]⟩] w (LPost 0 [] w) := find_a A c _ w (h.kn w hb) hb.size hA
theorem without_g (A : Option Addr) (c g : Nat) (w : World) (hk : Bk w g 3 #[.int .i64 1]) (hA : RE w A [exA, exB]) : Calls Tryz.prog 11 #[.slice A 2 c, .slice (some ⟨g, 0, none⟩) 1 1] w (LPost 1 [exB] w) := without_1 A c g w hk.lt (hk.cell 0) hA
theorem re_a (w : World) (g : Nat) (hg : w.heap.size = g) : RE (w.alloc (.cells #[.string ⟨#[85, 114]⟩, .int .i64 7, .int .i64 1, .string ⟨#[65, 49, 45, 98, 50]⟩] 29)) (some ⟨g, 0, none⟩) [exA] := re_one w exA g hg
theorem re_ad (w : World) (g : Nat) (hg : w.heap.size = g) : RE (w.alloc (.cells #[.string ⟨#[85, 114]⟩, .int .i64 7, .int .i64 1, .string ⟨#[65, 49, 45, 98, 50]⟩] 29)).drew (some ⟨g, 0, none⟩) [exA] := (re_one w exA g hg).below ((Below.refl _ _).drew)
theorem re_b (w : World) (g : Nat) (hg : w.heap.size = g) : RE (w.alloc (.cells #[.string ⟨#[117, 114]⟩, .int .i64 5, .int .i64 2, .string ⟨#[66, 49, 45, 97, 49]⟩] 29)) (some ⟨g, 0, none⟩) [exB] := re_one w exB g hg
theorem re_ba (w : World) (g : Nat) (hg : w.heap.size = g) : RE (w.alloc (.cells #[.string ⟨#[117, 114]⟩, .int .i64 5, .int .i64 2, .string ⟨#[66, 49, 45, 97, 49]⟩, .string ⟨#[85, 114]⟩, .int .i64 7, .int .i64 1, .string ⟨#[65, 49, 45, 98, 50]⟩] 29)) (some ⟨g, 0, none⟩) [exB, exA] := re_two w exB exA g hg
set_option maxHeartbeats 16000000 in
set_option maxRecDepth 4000 in
theorem awake52_any (w : World) (hk : Kn w.heap.size w) : Calls Tryz.prog 5 #[] w fun e w' => e = .returned (.bool true) ∧ Below w.heap.size w w' := by
  have HK := Lib.hid hk
  clear hk
  go_enter Tryz.func5, Tryz.ntmps5
  go_upto_region 3 with fail
  obtain ⟨W1, hW⟩ : ∃ X, ((w.alloc (.cells #[.string ⟨#[85, 114]⟩, .int .i64 7, .int .i64 1, .string ⟨#[65, 49, 45, 98, 50]⟩] 29)).alloc (.cells #[.string ⟨#[117, 114]⟩, .int .i64 5, .int .i64 2, .string ⟨#[66, 49, 45, 97, 49]⟩] 29)).alloc (.cells #[.string ⟨#[85, 114]⟩, .int .i64 7, .int .i64 1, .string ⟨#[65, 49, 45, 98, 50]⟩, .string ⟨#[117, 114]⟩, .int .i64 5, .int .i64 2, .string ⟨#[66, 49, 45, 97, 49]⟩] 29) = X := ⟨_, rfl⟩
  have b1 : Below w.heap.size w W1 := by rw [← hW]; exact (((Below.refl _ _).alloc (Nat.le_refl _) _).alloc (by simp) _).alloc (by simp; omega) _
  have kA : Bk W1 w.heap.size 29 #[.string ⟨#[85, 114]⟩, .int .i64 7, .int .i64 1, .string ⟨#[65, 49, 45, 98, 50]⟩] := by rw [← hW]; exact ((Bk.new _ _ _).alloc _).alloc _
  have kB : Bk W1 (w.heap.size + 1) 29 #[.string ⟨#[117, 114]⟩, .int .i64 5, .int .i64 2, .string ⟨#[66, 49, 45, 97, 49]⟩] := by rw [← hW]; exact (Bk.newAt (by simp) _ _).alloc _
  have HL1 : Hid (RE W1 (some ⟨w.heap.size + 1 + 1, 0, none⟩) [exA, exB]) := by rw [← hW]; exact Lib.hid (re_two _ exA exB _ (by simp))
  rw [hW]
  clear hW
  have b1z := b1.size
  go_upto_region 4 with fail
  obtain ⟨W2, hW⟩ : ∃ X, (((W1.alloc (.cells #[.int .i64 1, .int .i64 3, .int .i64 2] 33)).alloc (.cells #[.int .i64 1] 3)).alloc (.cells #[.int .i64 7, .int .i64 1, .int .i64 1, .string ⟨#[85, 114]⟩, .slice (some ⟨W1.heap.size + 1, 0, none⟩) 1 1] 40)).alloc (.cells #[.slice (some ⟨W1.heap.size, 0, none⟩) 1 1, .slice none 0 0, .slice none 0 0, .slice (some ⟨W1.heap.size + 1 + 1, 0, none⟩) 1 1] 43) = X := ⟨_, rfl⟩
  have hb2 : Below W1.heap.size W1 W2 := by rw [← hW]; exact ((((Below.refl _ _).alloc (Nat.le_refl _) _).alloc (by simp) _).alloc (by simp; omega) _).alloc (by simp; omega) _
  have kN : Bk W2 W1.heap.size 33 #[.int .i64 1, .int .i64 3, .int .i64 2] := by rw [← hW]; exact (((Bk.new _ _ _).alloc _).alloc _).alloc _
  have kI : Bk W2 (W1.heap.size + 1) 3 #[.int .i64 1] := by rw [← hW]; exact ((Bk.newAt (by simp) _ _).alloc _).alloc _
  have kF : Bk W2 (W1.heap.size + 1 + 1) 40 #[.int .i64 7, .int .i64 1, .int .i64 1, .string ⟨#[85, 114]⟩, .slice (some ⟨W1.heap.size + 1, 0, none⟩) 1 1] := by rw [← hW]; exact (Bk.newAt (by simp) _ _).alloc _
  have kS : Bk W2 (W1.heap.size + 1 + 1 + 1) 43 #[.slice (some ⟨W1.heap.size, 0, none⟩) 1 1, .slice none 0 0, .slice none 0 0, .slice (some ⟨W1.heap.size + 1 + 1, 0, none⟩) 1 1] := by rw [← hW]; exact Bk.newAt (by simp) _ _
  rw [hW]
  clear hW
  have b2 := b1.trans (hb2.mono b1.size)
  have s0 := kS.cell 0
  have s1 := kS.cell 1
  have s2 := kS.cell 2
  have s3 := kS.cell 3
  simp only [List.getElem?_toArray, List.getElem?_cons_zero, List.getElem?_cons_succ] at s0 s1 s2 s3
  go_wp2_with fail
  obtain ⟨W3, hW⟩ : ∃ X, W2.alloc (.cells #[.int .i64 7, .string ⟨#[85, 114]⟩, .int .i64 0, .int .i64 0, .int .i64 0, .int .i64 0, .int .i64 3, .int .i64 2] 51) = X := ⟨_, rfl⟩
  have hb3 : Below W2.heap.size W2 W3 := by rw [← hW]; exact (Below.refl _ _).alloc (Nat.le_refl _) _
  have kX : Bk W3 W2.heap.size 51 #[.int .i64 7, .string ⟨#[85, 114]⟩, .int .i64 0, .int .i64 0, .int .i64 0, .int .i64 0, .int .i64 3, .int .i64 2] := by rw [← hW]; exact Bk.new _ _ _
  rw [hW]
  clear hW s0 s1 s2 s3
  have b3 := b2.trans (hb3.mono b2.size)
  have kN3 := kN.below hb3 kN.lt
  have kI3 := kI.below hb3 kI.lt
  have kF3 := kF.below hb3 kF.lt
  have hex : ExG W3 W1.heap.size (W1.heap.size + 1 + 1) W2.heap.size ⟨7, 1, 1, urS, some ⟨W1.heap.size + 1, 0, none⟩, 1, 1, [1]⟩ := by
    refine ⟨?_, ?_, kX, rfl, rfl, rfl, rfl, rfl, rfl⟩
    · exact fun k hk => ⟨_, 0, rfl, kN3.lt, one_lt ⟨kN3.cell 0, kN3.cell 1, kN3.cell 2⟩⟩
    · exact ⟨fun k hk => ⟨_, 0, rfl, kF3.lt, one_lt ⟨kF3.cell 0, kF3.cell 1, kF3.cell 2, kF3.cell 3, kF3.cell 4⟩⟩, one_lt ⟨fun k hk => ⟨_, 0, rfl, kI3.lt, one_lt (kI3.cell 0)⟩, rfl⟩⟩
  refine (sheet_ex _ _ _ _ W3 hex ((HK.out.below b3).mono b3.size)).mono ?_
  rintro e WR ⟨v, rfl, ho, hbR⟩
  obtain ⟨AO, cO, hv, _, hrO⟩ := ho.form
  simp only [List.length_cons, List.length_nil, Nat.zero_add] at hv
  subst hv
  have bR := b3.trans (hbR.mono b3.size)
  have hb13 : Below W1.heap.size W1 WR := (hb2.trans (hb3.mono hb2.size)).trans (hbR.mono (Nat.le_trans hb2.size hb3.size))
  have kAR := kA.below hb13 kA.lt
  have kBR := kB.below hb13 kB.lt
  have HL : Hid (∀ X, Below WR.heap.size WR X → RE X (some ⟨w.heap.size + 1 + 1, 0, none⟩) [exA, exB]) := Lib.hid (fun X hX => (HL1.out.below hb13).below hX)
  have HOUT : Hid (∀ X, Below WR.heap.size WR X → RE X AO [exA]) := Lib.hid (fun X hX => hrO.below hX)
  have HKN : Le52 WR := ⟨fun X hX => ((HK.out.below bR).mono bR.size).below hX⟩
  clear hex kN3 kI3 kF3 kN kI kF kS kX kA kB ho hrO hb2 hb3 hbR b1 b2 b3 HL1 HK b1z
  go_upto_region 5 with fail
  -- @region
  have HKP : Hid (∀ X, Below WR.heap.size WR X → X.cell? ⟨w.heap.size, 0, none⟩ = some (.string ⟨#[85, 114]⟩) ∧ X.cell? ⟨w.heap.size, 1, none⟩ = some (.int .i64 7) ∧ X.cell? ⟨w.heap.size, 2, none⟩ = some (.int .i64 1) ∧ X.cell? ⟨w.heap.size, 3, none⟩ = some (.string ⟨#[65, 49, 45, 98, 50]⟩) ∧ X.cell? ⟨w.heap.size + 1, 0, none⟩ = some (.string ⟨#[117, 114]⟩) ∧ X.cell? ⟨w.heap.size + 1, 1, none⟩ = some (.int .i64 5) ∧ X.cell? ⟨w.heap.size + 1, 2, none⟩ = some (.int .i64 2) ∧ X.cell? ⟨w.heap.size + 1, 3, none⟩ = some (.string ⟨#[66, 49, 45, 97, 49]⟩)) :=
    Lib.hid (fun X hX => ⟨(kAR.below hX kAR.lt).cell 0, (kAR.below hX kAR.lt).cell 1, (kAR.below hX kAR.lt).cell 2, (kAR.below hX kAR.lt).cell 3, (kBR.below hX kBR.lt).cell 0, (kBR.below hX kBR.lt).cell 1, (kBR.below hX kBR.lt).cell 2, (kBR.below hX kBR.lt).cell 3⟩)
  have zA := kAR.lt
  have zB := kBR.lt
  clear kAR kBR
  go_region_held3 (fun X => X.cell? ⟨w.heap.size, 0, none⟩ = some (.string ⟨#[85, 114]⟩) ∧ X.cell? ⟨w.heap.size, 1, none⟩ = some (.int .i64 7) ∧ X.cell? ⟨w.heap.size, 2, none⟩ = some (.int .i64 1) ∧ X.cell? ⟨w.heap.size, 3, none⟩ = some (.string ⟨#[65, 49, 45, 98, 50]⟩) ∧ X.cell? ⟨w.heap.size + 1, 0, none⟩ = some (.string ⟨#[117, 114]⟩) ∧ X.cell? ⟨w.heap.size + 1, 1, none⟩ = some (.int .i64 5) ∧ X.cell? ⟨w.heap.size + 1, 2, none⟩ = some (.int .i64 2) ∧ X.cell? ⟨w.heap.size + 1, 3, none⟩ = some (.string ⟨#[66, 49, 45, 97, 49]⟩))
    ((first | exact HKP.out _ (by go_grown)))
    (first | (go_at_call 9; (first | ((with_reducible refine (same_a _ _ _ _ _ ?_ ?_).mono ?_); (first | ((with_reducible refine HL.out _ ?_); go_grown) | ((with_reducible refine HOUT.out _ ?_); go_grown) | ((with_reducible refine re_ad _ _ ?_); simp) | ((with_reducible refine re_b _ _ ?_); simp) | ((with_reducible refine re_ba _ _ ?_); simp) | (with_reducible exact hr7) | ((with_reducible refine RE.below hr7 ?_); go_grown) | ((with_reducible refine RE.below ?_ hb6); (first | ((with_reducible refine re_b _ _ ?_); simp) | ((with_reducible refine RE.below (re_b _ _ ?_) ((Below.refl _ _).alloc (Nat.le_refl _) _)); simp)))); (first | ((with_reducible refine HL.out _ ?_); go_grown) | ((with_reducible refine HOUT.out _ ?_); go_grown) | ((with_reducible refine re_ad _ _ ?_); simp) | ((with_reducible refine re_b _ _ ?_); simp) | ((with_reducible refine re_ba _ _ ?_); simp) | (with_reducible exact hr7) | ((with_reducible refine RE.below hr7 ?_); go_grown) | ((with_reducible refine RE.below ?_ hb6); (first | ((with_reducible refine re_b _ _ ?_); simp) | ((with_reducible refine RE.below (re_b _ _ ?_) ((Below.refl _ _).alloc (Nat.le_refl _) _)); simp))))) | ((with_reducible refine (same_b _ _ _ _ _ ?_ ?_).mono ?_); (first | ((with_reducible refine HL.out _ ?_); go_grown) | ((with_reducible refine HOUT.out _ ?_); go_grown) | ((with_reducible refine re_ad _ _ ?_); simp) | ((with_reducible refine re_b _ _ ?_); simp) | ((with_reducible refine re_ba _ _ ?_); simp) | (with_reducible exact hr7) | ((with_reducible refine RE.below hr7 ?_); go_grown) | ((with_reducible refine RE.below ?_ hb6); (first | ((with_reducible refine re_b _ _ ?_); simp) | ((with_reducible refine RE.below (re_b _ _ ?_) ((Below.refl _ _).alloc (Nat.le_refl _) _)); simp)))); (first | ((with_reducible refine HL.out _ ?_); go_grown) | ((with_reducible refine HOUT.out _ ?_); go_grown) | ((with_reducible refine re_ad _ _ ?_); simp) | ((with_reducible refine re_b _ _ ?_); simp) | ((with_reducible refine re_ba _ _ ?_); simp) | (with_reducible exact hr7) | ((with_reducible refine RE.below hr7 ?_); go_grown) | ((with_reducible refine RE.below ?_ hb6); (first | ((with_reducible refine re_b _ _ ?_); simp) | ((with_reducible refine RE.below (re_b _ _ ?_) ((Below.refl _ _).alloc (Nat.le_refl _) _)); simp))))) | ((with_reducible refine (same_l _ _ _ _ _ ?_ ?_).mono ?_); (first | ((with_reducible refine HL.out _ ?_); go_grown) | ((with_reducible refine HOUT.out _ ?_); go_grown) | ((with_reducible refine re_ad _ _ ?_); simp) | ((with_reducible refine re_b _ _ ?_); simp) | ((with_reducible refine re_ba _ _ ?_); simp) | (with_reducible exact hr7) | ((with_reducible refine RE.below hr7 ?_); go_grown) | ((with_reducible refine RE.below ?_ hb6); (first | ((with_reducible refine re_b _ _ ?_); simp) | ((with_reducible refine RE.below (re_b _ _ ?_) ((Below.refl _ _).alloc (Nat.le_refl _) _)); simp)))); (first | ((with_reducible refine HL.out _ ?_); go_grown) | ((with_reducible refine HOUT.out _ ?_); go_grown) | ((with_reducible refine re_ad _ _ ?_); simp) | ((with_reducible refine re_b _ _ ?_); simp) | ((with_reducible refine re_ba _ _ ?_); simp) | (with_reducible exact hr7) | ((with_reducible refine RE.below hr7 ?_); go_grown) | ((with_reducible refine RE.below ?_ hb6); (first | ((with_reducible refine re_b _ _ ?_); simp) | ((with_reducible refine RE.below (re_b _ _ ?_) ((Below.refl _ _).alloc (Nat.le_refl _) _)); simp)))))); first | rintro e w6 rfl hb6 | rintro e w6 ⟨rfl, hb6⟩; have hb7 : Below WR.heap.size WR w6 := Below.trans (by go_grown) (hb6.mono (by go_size)); have hz7 := hb7.size) | (go_at_call 6; (first | ((with_reducible refine (check_l' HKN _ _ _ ?_ ?_).mono ?_); (go_grown); (first | ((with_reducible refine HL.out _ ?_); go_grown) | ((with_reducible refine HOUT.out _ ?_); go_grown) | ((with_reducible refine re_ad _ _ ?_); simp) | ((with_reducible refine re_b _ _ ?_); simp) | ((with_reducible refine re_ba _ _ ?_); simp) | (with_reducible exact hr7) | ((with_reducible refine RE.below hr7 ?_); go_grown) | ((with_reducible refine RE.below ?_ hb6); (first | ((with_reducible refine re_b _ _ ?_); simp) | ((with_reducible refine RE.below (re_b _ _ ?_) ((Below.refl _ _).alloc (Nat.le_refl _) _)); simp))))) | ((with_reducible refine (check_ba' HKN _ _ _ ?_ ?_).mono ?_); (go_grown); (first | ((with_reducible refine HL.out _ ?_); go_grown) | ((with_reducible refine HOUT.out _ ?_); go_grown) | ((with_reducible refine re_ad _ _ ?_); simp) | ((with_reducible refine re_b _ _ ?_); simp) | ((with_reducible refine re_ba _ _ ?_); simp) | (with_reducible exact hr7) | ((with_reducible refine RE.below hr7 ?_); go_grown) | ((with_reducible refine RE.below ?_ hb6); (first | ((with_reducible refine re_b _ _ ?_); simp) | ((with_reducible refine RE.below (re_b _ _ ?_) ((Below.refl _ _).alloc (Nat.le_refl _) _)); simp)))))); first | rintro e w6 rfl hb6 | rintro e w6 ⟨rfl, hb6⟩; have hb7 : Below WR.heap.size WR w6 := Below.trans (by go_grown) (hb6.mono (by go_size)); have hz7 := hb7.size) | (go_at_call 10; (first | ((with_reducible refine (merge_l' HKN _ _ _ _ _ ?_ ?_ ?_).mono ?_); (go_grown); (first | ((with_reducible refine HL.out _ ?_); go_grown) | ((with_reducible refine HOUT.out _ ?_); go_grown) | ((with_reducible refine re_ad _ _ ?_); simp) | ((with_reducible refine re_b _ _ ?_); simp) | ((with_reducible refine re_ba _ _ ?_); simp) | (with_reducible exact hr7) | ((with_reducible refine RE.below hr7 ?_); go_grown) | ((with_reducible refine RE.below ?_ hb6); (first | ((with_reducible refine re_b _ _ ?_); simp) | ((with_reducible refine RE.below (re_b _ _ ?_) ((Below.refl _ _).alloc (Nat.le_refl _) _)); simp)))); (first | ((with_reducible refine HL.out _ ?_); go_grown) | ((with_reducible refine HOUT.out _ ?_); go_grown) | ((with_reducible refine re_ad _ _ ?_); simp) | ((with_reducible refine re_b _ _ ?_); simp) | ((with_reducible refine re_ba _ _ ?_); simp) | (with_reducible exact hr7) | ((with_reducible refine RE.below hr7 ?_); go_grown) | ((with_reducible refine RE.below ?_ hb6); (first | ((with_reducible refine re_b _ _ ?_); simp) | ((with_reducible refine RE.below (re_b _ _ ?_) ((Below.refl _ _).alloc (Nat.le_refl _) _)); simp)))))); rintro e w6 ⟨A7, c7, rfl, hr7, hb6⟩; have hb7 : Below WR.heap.size WR w6 := Below.trans (by go_grown) (hb6.mono (by go_size)); have hz7 := hb7.size) | (go_at_call 12; (first | ((with_reducible refine (find_u' HKN _ _ _ ?_ ?_).mono ?_); (go_grown); (first | ((with_reducible refine HL.out _ ?_); go_grown) | ((with_reducible refine HOUT.out _ ?_); go_grown) | ((with_reducible refine re_ad _ _ ?_); simp) | ((with_reducible refine re_b _ _ ?_); simp) | ((with_reducible refine re_ba _ _ ?_); simp) | (with_reducible exact hr7) | ((with_reducible refine RE.below hr7 ?_); go_grown) | ((with_reducible refine RE.below ?_ hb6); (first | ((with_reducible refine re_b _ _ ?_); simp) | ((with_reducible refine RE.below (re_b _ _ ?_) ((Below.refl _ _).alloc (Nat.le_refl _) _)); simp))))) | ((with_reducible refine (find_a' HKN _ _ _ ?_ ?_).mono ?_); (go_grown); (first | ((with_reducible refine HL.out _ ?_); go_grown) | ((with_reducible refine HOUT.out _ ?_); go_grown) | ((with_reducible refine re_ad _ _ ?_); simp) | ((with_reducible refine re_b _ _ ?_); simp) | ((with_reducible refine re_ba _ _ ?_); simp) | (with_reducible exact hr7) | ((with_reducible refine RE.below hr7 ?_); go_grown) | ((with_reducible refine RE.below ?_ hb6); (first | ((with_reducible refine re_b _ _ ?_); simp) | ((with_reducible refine RE.below (re_b _ _ ?_) ((Below.refl _ _).alloc (Nat.le_refl _) _)); simp)))))); rintro e w6 ⟨A7, c7, rfl, hr7, hb6⟩; have hb7 : Below WR.heap.size WR w6 := Below.trans (by go_grown) (hb6.mono (by go_size)); have hz7 := hb7.size) | (go_at_call 11; ((with_reducible refine (without_g _ _ _ _ ?_ ?_).mono ?_); (first | (with_reducible exact Bk.new _ _ _) | ((with_reducible refine Bk.newAt ?_ _ _); simp) | ((with_reducible refine Bk.alloc (Bk.newAt ?_ _ _) _); simp)); (first | ((with_reducible refine HL.out _ ?_); go_grown) | ((with_reducible refine HOUT.out _ ?_); go_grown) | ((with_reducible refine re_ad _ _ ?_); simp) | ((with_reducible refine re_b _ _ ?_); simp) | ((with_reducible refine re_ba _ _ ?_); simp) | (with_reducible exact hr7) | ((with_reducible refine RE.below hr7 ?_); go_grown) | ((with_reducible refine RE.below ?_ hb6); (first | ((with_reducible refine re_b _ _ ?_); simp) | ((with_reducible refine RE.below (re_b _ _ ?_) ((Below.refl _ _).alloc (Nat.le_refl _) _)); simp))))); rintro e w6 ⟨A7, c7, rfl, hr7, hb6⟩; have hb7 : Below WR.heap.size WR w6 := Below.trans (by go_grown) (hb6.mono (by go_size)); have hz7 := hb7.size))
  all_goals
    go_wp2_with fail
    go_ret
    exact ⟨rfl, bR.trans (hb7.mono bR.size)⟩
end Go.Proofs.YtcbobceggjndlaaGreatDoor
