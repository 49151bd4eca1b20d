/-
  Walks of layer 6: the examples of the chapter (awake).
-/
import Derived.Test.YtlcjfphhogcenaaDoorGlyphO
import Derived.Test.YtlcjfphhogcenaaDoorGlyphF
set_option linter.unusedVariables false
set_option linter.unusedSimpArgs false
namespace Go.Proofs.YtlcjfphhogcenaaDoor
open Go.RowKit

theorem RI.new (W : World) (xs : List Int) (cs : Array Value) (t : TypeId) (h : cs.toList = xs.map (Value.int .i64)) : RI (W.alloc (.cells cs t)) (some ⟨W.heap.size, 0, none⟩) xs := fun k hk => by
  refine ⟨_, _, rfl, by simp, fun j hj => ?_⟩
  have : cs = (xs.map (Value.int .i64)).toArray := by rw [← h]
  subst this
  have hn : Blk (W.alloc (.cells (xs.map (Value.int .i64)).toArray t)) W.heap.size t (xs.map (Value.int .i64)) := heap_alloc_new W _
  rw [Nat.zero_add, hn.cell]
  simp [hj, gi]

theorem dec_1 : Gl.decode [65, 195, 169] = some [65, 233] := by decide
theorem dec_2 : Gl.decode [97, 44, 98] = none := by decide
theorem enc_1 : Gl.encode [19968] = some [228, 184, 128] := by decide
theorem ord_1 : Gl.order [1488, 1489, 32, 49, 50] = [49, 50, 32, 1489, 1488] := by decide
theorem script_1 : Gl.script 215 = -1 := by decide
theorem width_1 : Gl.width 19968 9 = 9 := by decide
theorem width_2 : Gl.width 32 9 = 5 := by decide
theorem width_3 : Gl.width 97 9 = 6 := by decide
theorem fold_1 : Gl.fold 352 = 353 := by decide

theorem gdecode_ex1 (w : World) (ht : Gl.Tab w) : Calls Tryd.prog 19 #[.string ⟨#[65, 195, 169]⟩] w fun e w' => Below w.heap.size w w' ∧ ∃ A c, e = .returned (.tuple #[.slice A 2 c, .int .i64 0]) ∧ RI w' A [65, 233] := by
  refine (gdecode_any _ w ht (by decide)).mono ?_
  rintro e w' ⟨hb, v, hv, rfl⟩
  rw [show Gl.decode _ = _ from dec_1] at hv ⊢
  obtain ⟨A, c, rfl, _, _, hr⟩ := hv.form
  exact ⟨hb, A, c, rfl, hr⟩
theorem gdecode_ex2 (w : World) (ht : Gl.Tab w) : Calls Tryd.prog 19 #[.string ⟨#[97, 44, 98]⟩] w fun e w' => Below w.heap.size w w' ∧ ∃ v, e = .returned (.tuple #[v, .int .i64 4]) := by
  refine (gdecode_any _ w ht (by decide)).mono ?_
  rintro e w' ⟨hb, v, hv, rfl⟩
  rw [show Gl.decode _ = _ from dec_2] at hv ⊢
  exact ⟨hb, _, rfl⟩
theorem gencode_ex (A : Option Addr) (w : World) (ht : Gl.Tab w) (hA : RI w A [19968]) : Calls Tryd.prog 23 #[.slice A 1 1] w fun e w' => e = .returned (.tuple #[.string ⟨#[228, 184, 128]⟩, .int .i64 0]) ∧ Below w.heap.size w w' := by
  refine (gencode_any A 1 [19968] w ht hA (by decide)).mono ?_
  rintro e w' ⟨rfl, hb⟩
  rw [show Gl.encode _ = _ from enc_1]
  exact ⟨rfl, hb⟩
theorem order_ex (A : Option Addr) (w : World) (ht : Gl.Tab w) (hA : RI w A [1488, 1489, 32, 49, 50]) : Calls Tryd.prog 31 #[.slice A 5 5] w fun e w' => Below w.heap.size w w' ∧ ∃ A c, e = .returned (.slice A 5 c) ∧ RI w' A [49, 50, 32, 1489, 1488] := by
  refine (order_any A 5 [1488, 1489, 32, 49, 50] w ht hA (by decide) (by decide)).mono ?_
  rintro e w' ⟨hb, v, rfl, hv⟩
  rw [show Gl.order _ = _ from ord_1] at hv
  obtain ⟨A, c, rfl, _, _, hr⟩ := hv.form
  exact ⟨hb, A, c, rfl, hr⟩

set_option maxHeartbeats 8000000 in
theorem awake_any (w : World) (ht : Gl.Tab w) : Calls Tryd.prog 22 #[] w fun e w' => e = .returned (.bool true) ∧ Below w.heap.size w w' := by
  go_enter Tryd.func22, Tryd.ntmps22
  go_wp2_with (go_at_call 19; refine (gdecode_ex1 _ ht).mono ?_)
  rintro e w1 ⟨hb1, A1, c1, rfl, hR1⟩
  have ht1 := ht.below hb1 (Nat.le_refl _)
  go_wp2_with (go_at_call 19; refine (gdecode_ex2 _ ht1).mono ?_)
  rintro e w2 ⟨hb2, v2, rfl⟩
  have ht2 := ht1.below hb2 (Nat.le_refl _)
  have hR2 := hR1.below hb2
  have hb02 : Below w.heap.size w w2 := hb1.trans (hb2.mono hb1.size)
  clear hR1 hb1 hb2 ht1
  go_wp2_with (go_at_call 23; refine (gencode_ex _ _ (ht2.below ((Below.refl _ _).alloc (Nat.le_refl _) _) (Nat.le_refl _)) (RI.new _ [19968] #[.int .i64 19968] _ rfl)).mono ?_)
  first | rintro e w3 rfl hb3 | rintro e w3 ⟨rfl, hb3⟩
  have hb23 : Below w2.heap.size w2 w3 := ((Below.refl _ _).alloc (Nat.le_refl _) _).trans (hb3.mono (by first | omega | simp))
  have ht3 := ht2.below hb23 (Nat.le_refl _)
  have hR3 := hR2.below hb23
  have hb03 : Below w.heap.size w w3 := hb02.trans (hb23.mono hb02.size)
  clear hR2 hb3 hb23 ht2 hb02
  go_wp2_with (go_at_call 21; refine (rsame_any _ A1 _ c1 2 [65, 233] [65, 233] (hR3.below ((Below.refl _ _).alloc (Nat.le_refl _) _)) (RI.new _ [65, 233] #[.int .i64 65, .int .i64 233] _ rfl) (by decide)).mono ?_)
  first | rintro e w4 rfl hb4 | rintro e w4 ⟨rfl, hb4⟩
  have hb34 : Below w3.heap.size w3 w4 := ((Below.refl _ _).alloc (Nat.le_refl _) _).trans (hb4.mono (by first | omega | simp))
  have ht4 := ht3.below hb34 (Nat.le_refl _)
  have hb04 : Below w.heap.size w w4 := hb03.trans (hb34.mono hb03.size)
  clear hR3 hb4 hb34 ht3 hb03
  try rw [decide_eq_true (rfl : ([65, 233] : List Int) = [65, 233])]
  go_wp2_with (go_at_call 25; refine (gscript_any _ _ ht4).mono ?_)
  first | rintro e w5 rfl hb5 | rintro e w5 ⟨rfl, hb5⟩
  try rw [script_1]
  have ht5 := ht4.below hb5 (Nat.le_refl _)
  have hb05 : Below w.heap.size w w5 := hb04.trans (hb5.mono hb04.size)
  go_wp2_with (go_at_call 27; refine (gwidth_any _ _ _ ht5).mono ?_)
  first | rintro e w6 rfl hb6 | rintro e w6 ⟨rfl, hb6⟩
  try rw [width_1]
  have ht6 := ht5.below hb6 (Nat.le_refl _)
  have hb06 : Below w.heap.size w w6 := hb05.trans (hb6.mono hb05.size)
  go_wp2_with (go_at_call 27; refine (gwidth_any _ _ _ ht6).mono ?_)
  first | rintro e w7 rfl hb7 | rintro e w7 ⟨rfl, hb7⟩
  try rw [width_2]
  have ht7 := ht6.below hb7 (Nat.le_refl _)
  have hb07 : Below w.heap.size w w7 := hb06.trans (hb7.mono hb06.size)
  go_wp2_with (go_at_call 27; refine (gwidth_any _ _ _ ht7).mono ?_)
  first | rintro e w8 rfl hb8 | rintro e w8 ⟨rfl, hb8⟩
  try rw [width_3]
  have ht8 := ht7.below hb8 (Nat.le_refl _)
  have hb08 : Below w.heap.size w w8 := hb07.trans (hb8.mono hb07.size)
  go_wp2_with (go_at_call 29; refine (gfold_any _ _ (by decide) (by decide)).mono ?_)
  first | rintro e w9 rfl hb9 | rintro e w9 ⟨rfl, hb9⟩
  try rw [fold_1]
  have ht9 := ht8.below hb9 (Nat.le_refl _)
  have hb09 : Below w.heap.size w w9 := hb08.trans (hb9.mono hb08.size)
  clear hb5 hb6 hb7 hb8 hb9 hb05 hb06 hb07 hb08 ht5 ht6 ht7 ht8
  go_wp2_with (go_at_call 31; refine (order_ex _ _ (ht9.below ((Below.refl _ _).alloc (Nat.le_refl _) _) (Nat.le_refl _)) (RI.new _ [1488, 1489, 32, 49, 50] #[.int .i64 1488, .int .i64 1489, .int .i64 32, .int .i64 49, .int .i64 50] _ rfl)).mono ?_)
  rintro e w10 ⟨hb10, A10, c10, rfl, hR10⟩
  have hb9' : Below w9.heap.size w9 w10 := ((Below.refl _ _).alloc (Nat.le_refl _) _).trans (hb10.mono (by first | omega | simp))
  have hb010 : Below w.heap.size w w10 := hb09.trans (hb9'.mono hb09.size)
  clear hb10 hb9' hb09
  go_wp2_with (go_at_call 21; refine (rsame_any _ A10 _ c10 5 [49, 50, 32, 1489, 1488] [49, 50, 32, 1489, 1488] (hR10.below ((Below.refl _ _).alloc (Nat.le_refl _) _)) (RI.new _ [49, 50, 32, 1489, 1488] #[.int .i64 49, .int .i64 50, .int .i64 32, .int .i64 1489, .int .i64 1488] _ rfl) (by decide)).mono ?_)
  first | rintro e w11 rfl hb11 | rintro e w11 ⟨rfl, hb11⟩
  have hb10' : Below w10.heap.size w10 w11 := ((Below.refl _ _).alloc (Nat.le_refl _) _).trans (hb11.mono (by first | omega | simp))
  have hb011 : Below w.heap.size w w11 := hb010.trans (hb10'.mono hb010.size)
  try rw [decide_eq_true (rfl : ([49, 50, 32, 1489, 1488] : List Int) = [49, 50, 32, 1489, 1488])]
  go_wp2_with fail
  go_ret
  exact ⟨rfl, hb011⟩
end Go.Proofs.YtlcjfphhogcenaaDoor
