/-
  gazetteer.set and gazetteer.Merge at the example.
-/
import Derived.Test.YtcbobceggjndlaaGreatDoorGzJ
set_option linter.unusedVariables false
set_option linter.unusedSimpArgs false
namespace Go.Proofs.YtcbobceggjndlaaGreatDoor
open Go.RowKit Go.Sort

theorem exE_short (x : Bool) : (exE x).name.size ≤ 1000000000000 := by cases x <;> decide
theorem sorted3 : insertionSort (ltOf (cfOf exE)) #[true, false, true] 0 3 = #[false, true, true] := by decide +kernel
theorem sorted1 : insertionSort (ltOf (cfOf exE)) #[false] 0 1 = #[false] := by decide +kernel
theorem sort_ex3 (v : Value) (w : World) (B : Nat) (hk : Kn B w) (hB : B ≤ w.heap.size) (ho : OE w B v [exB, exA, exB]) :
    Calls Tryz.prog 58 #[v, .func (.func 15) #[] #[]] w fun e w' => e = .returned (.tuple #[]) ∧ OE w' B v [exA, exB, exB] ∧ Below B w w' := by
  have h := sort_small exE exE_short #[true, false, true] v w B hk hB ho (by decide) (by decide) (by show (insertionSort (ltOf (cfOf exE)) #[true, false, true] 0 3).size = 3; rw [sorted3]; rfl)
  have e : insertionSort (ltOf (cfOf exE)) #[true, false, true] 0 (#[true, false, true] : Array Bool).size = #[false, true, true] := sorted3
  rw [e] at h
  exact h
theorem sort_ex1 (v : Value) (w : World) (B : Nat) (hk : Kn B w) (hB : B ≤ w.heap.size) (ho : OE w B v [exA]) :
    Calls Tryz.prog 58 #[v, .func (.func 15) #[] #[]] w fun e w' => e = .returned (.tuple #[]) ∧ OE w' B v [exA] ∧ Below B w w' := by
  have h := sort_small exE exE_short #[false] v w B hk hB ho (by decide) (by decide) (by show (insertionSort (ltOf (cfOf exE)) #[false] 0 1).size = 1; rw [sorted1]; rfl)
  have e : insertionSort (ltOf (cfOf exE)) #[false] 0 (#[false] : Array Bool).size = #[false] := sorted1
  rw [e] at h
  exact h
set_option maxHeartbeats 4000000 in
theorem set_ex1 (v : Value) (w : World) (B : Nat) (hk : Kn B w) (hB : B ≤ w.heap.size) (ho : OE w B v [exA]) : Calls Tryz.prog 23 #[v] w (OwnPost B [exA] w) := by
  have HO := Lib.hid ho
  have HK := Lib.hid hk
  clear ho hk
  go_enter Tryz.func23, Tryz.ntmps23
  go_wp2_with (go_at_call 58; refine (sort_ex1 v _ B HK.out hB HO.out).mono ?_)
  rintro e w1 ⟨rfl, ho1, hb1⟩
  have HO1 := Lib.hid ho1
  clear ho1
  go_wp2_with (go_at_call 59; refine (compact1 v [exA] _ B rfl HO1.out).mono ?_)
  rintro e w2 ⟨v2, rfl, ho2, hb2⟩
  go_wp2_with fail
  go_ret
  exact ⟨_, rfl, ho2, hb1.trans hb2⟩
theorem OE.slice {w : World} {B : Nat} {v : Value} {es : List Ent} (h : OE w B v es) (h0 : 0 < es.length) : ∃ g cap, v = .slice (some ⟨g, 0, none⟩) es.length cap := by
  obtain ⟨h1, h2⟩ := h
  rcases h2 with ⟨rfl, hn⟩ | ⟨g, cap, cur, rfl, hg, hh, hn, hm, hsz, hcur⟩
  · omega
  · exact ⟨g, cap, rfl⟩
set_option maxHeartbeats 4000000 in
theorem set_ex3 (v : Value) (w : World) (B : Nat) (hk : Kn B w) (hB : B ≤ w.heap.size) (ho : OE w B v [exB, exA, exB]) : Calls Tryz.prog 23 #[v] w (OwnPost B [exA, exB] w) := by
  have HO := Lib.hid ho
  have HK := Lib.hid hk
  clear ho hk
  go_enter Tryz.func23, Tryz.ntmps23
  go_wp2_with (go_at_call 58; refine (sort_ex3 v _ B HK.out hB HO.out).mono ?_)
  rintro e w1 ⟨rfl, ho1, hb1⟩
  obtain ⟨g, cap, rfl⟩ := ho1.slice (by decide)
  have HO1 := Lib.hid ho1
  clear ho1 HO
  have hB1 := Nat.le_trans hB hb1.size
  simp only [List.length_cons, List.length_nil, Nat.zero_add, Nat.reduceAdd] at HO1 ⊢
  go_wp2_with (go_at_call 59; refine (compact3 g cap _ B hB1 HO1.out).mono ?_)
  rintro e w2 ⟨v2, rfl, ho2, hb2⟩
  go_wp2_with fail
  go_ret
  exact ⟨_, rfl, ho2, hb1.trans hb2⟩
theorem rle_two (w : World) (A1 A2 : Option Addr) (c1 c2 : Nat) (xs ys : List Ent) (t : TypeId) (h1 : RE w A1 xs) (h2 : RE w A2 ys) (n1 : A1 = none → xs.length = 0 ∧ c1 = 0) (n2 : A2 = none → ys.length = 0 ∧ c2 = 0) :
    RLE (w.alloc (.cells #[.slice A1 xs.length c1, .slice A2 ys.length c2] t)) (some ⟨w.heap.size, 0, none⟩) [xs, ys] := by
  have hk := Bk.new w #[.slice A1 xs.length c1, .slice A2 ys.length c2] t
  have hb : Below w.heap.size w (w.alloc (.cells #[.slice A1 xs.length c1, .slice A2 ys.length c2] t)) := (Below.refl _ _).alloc (Nat.le_refl _) _
  intro k hkl
  simp at hkl
  match k, hkl with
  | 0, _ => exact ⟨w.heap.size, 0, A1, c1, rfl, by simp, hk.cell 0, h1.below hb, n1⟩
  | 1, _ => exact ⟨w.heap.size, 0, A2, c2, rfl, by simp, hk.cell 1, h2.below hb, n2⟩
set_option maxHeartbeats 4000000 in
theorem merge_ex (A1 A2 : Option Addr) (c1 c2 : Nat) (w : World) (hk : Kn w.heap.size w) (h1 : RE w A1 [exB]) (h2 : RE w A2 [exA, exB]) (n1 : A1 ≠ none) (n2 : A2 ≠ none) :
    Calls Tryz.prog 10 #[.slice A1 1 c1, .slice A2 2 c2] w (OwnPost w.heap.size [exA, exB] w) := by
  have HR := Lib.hid (rle_two w A1 A2 c1 c2 [exB] [exA, exB] 22 h1 h2 (fun h => absurd h n1) (fun h => absurd h n2))
  have HK := Lib.hid hk
  clear h1 h2 hk
  simp only [List.length_cons, List.length_nil, Nat.zero_add, Nat.reduceAdd] at HR
  go_enter Tryz.func10, Tryz.ntmps10
  go_wp2_with (go_at_call 24; refine (concatE _ _ [[exB], [exA, exB]] _ HR.out (by decide) (by decide)).mono ?_)
  rintro e w1 ⟨hb1, v1, rfl, ho1⟩
  have hb01 : Below w.heap.size w w1 := ((Below.refl _ _).alloc (Nat.le_refl _) _).trans (hb1.mono (by simp))
  have HO1 := Lib.hid (show OE w1 w.heap.size v1 [exB, exA, exB] from OE.mono ho1 (by simp))
  clear ho1 HR
  go_wp2_with (go_at_call 23; refine (set_ex3 v1 _ w.heap.size (HK.out.below hb01) hb01.size HO1.out).mono ?_)
  rintro e w2 ⟨v2, rfl, ho2, hb2⟩
  go_wp2_with fail
  go_ret
  exact ⟨_, rfl, ho2, hb01.trans hb2⟩
end Go.Proofs.YtcbobceggjndlaaGreatDoor
