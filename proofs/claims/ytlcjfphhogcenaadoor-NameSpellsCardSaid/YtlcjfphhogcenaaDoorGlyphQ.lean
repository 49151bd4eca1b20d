/-
  Walks of the statements of layer 6: GlyphTables, GlyphFolds, GlyphWidths, GlyphEncodes, GlyphOrders, GlyphDecodes.
-/
import Derived.Test.YtlcjfphhogcenaaDoorGlyphP
import Derived.Test.YtlcjfphhogcenaaDoorPlainQ
set_option linter.unusedVariables false
set_option linter.unusedSimpArgs false
namespace Go.Proofs.YtlcjfphhogcenaaDoor
open Go.RowKit

theorem Gl.fold_range {r : Int} (h1 : -9223372036854775808 ≤ r) (h2 : r ≤ 9223372036854775807) : -9223372036854775808 ≤ Gl.fold r ∧ Gl.fold r ≤ 9223372036854775807 := by unfold Gl.fold; omega
theorem Gl.width_zero {r l : Int} (h : l < 1 ∨ 64 < l ∨ Gl.script r < 0) : Gl.width r l = 0 := by unfold Gl.width; rw [if_pos h]
theorem Gl.width_pos {r l : Int} (h1 : 1 ≤ l) (h2 : l ≤ 64) (h3 : 0 ≤ Gl.script r) : 1 ≤ Gl.width r l ∧ Gl.width r l ≤ l := by
  unfold Gl.width
  rw [if_neg (by omega)]
  split
  · omega
  · split <;> omega
theorem Gl.width_mono {r l : Int} (h1 : 1 ≤ l) (h2 : l < 64) (h3 : 0 ≤ Gl.script r) : Gl.width r l ≤ Gl.width r (l + 1) := by
  unfold Gl.width
  have a : ¬ (l < 1 ∨ 64 < l ∨ Gl.script r < 0) := by omega
  have b : ¬ (l + 1 < 1 ∨ 64 < l + 1 ∨ Gl.script r < 0) := by omega
  rw [if_neg a, if_neg b]
  split
  · omega
  · split <;> omega

theorem Gl.decode_len (l : List UInt8) : ((Gl.decode l).getD []).length ≤ l.length := by
  cases h : Gl.decode l with
  | none => simp
  | some L =>
    obtain ⟨_, rfl⟩ := (Gl.decode_iff l L).1 h
    exact (Gl.units_len L).1

theorem law_tables (r l : Int) (w : World) (ht : Gl.Tab w) (h1 : -9223372036854775808 ≤ r) (h2 : r ≤ 9223372036854775807) :
    Calls Tryd.prog 6 #[.int .i64 r, .int .i64 l] w fun e w' => e = .returned (.bool true) ∧ Below w.heap.size w w' := by
  go_enter Tryd.func6, Tryd.ntmps6
  go_wp2_with (go_at_call 25; refine (gscript_any _ _ ht).mono ?_)
  first | rintro e w1 rfl hb1 | rintro e w1 ⟨rfl, hb1⟩
  have ht1 := ht.below hb1 (Nat.le_refl _)
  go_wp2_with (first | (go_at_call 26; refine (rscript_any _ _).mono ?_; first | rintro e w' rfl rfl | rintro e w' ⟨rfl, rfl⟩) | (go_at_call 27; refine (gwidth_any _ _ _ ht1).mono ?_))
  first | rintro e w2 rfl hb2 | rintro e w2 ⟨rfl, hb2⟩
  have ht2 := ht1.below hb2 (Nat.le_refl _)
  have hb02 : Below w.heap.size w w2 := hb1.trans (hb2.mono hb1.size)
  go_wp2_with (first | (go_at_call 28; refine (rwidth_any _ _ _).mono ?_; first | rintro e w' rfl rfl | rintro e w' ⟨rfl, rfl⟩) | (go_at_call 29; refine (gfold_any _ _ h1 h2).mono ?_))
  first | rintro e w3 rfl hb3 | rintro e w3 ⟨rfl, hb3⟩
  have ht3 := ht2.below hb3 (Nat.le_refl _)
  have hb03 : Below w.heap.size w w3 := hb02.trans (hb3.mono hb02.size)
  go_wp2_with (first | (go_at_call 30; refine (rfold_any _ _ h1 h2).mono ?_; first | rintro e w' rfl rfl | rintro e w' ⟨rfl, rfl⟩) | (go_at_call 22; refine (awake_any _ ht3).mono ?_))
  first | rintro e w4 rfl hb4 | rintro e w4 ⟨rfl, hb4⟩
  go_wp2_with fail
  go_ret
  exact ⟨rfl, hb03.trans (hb4.mono hb03.size)⟩

theorem law_folds (r : Int) (w : World) (ht : Gl.Tab w) (h1 : -9223372036854775808 ≤ r) (h2 : r ≤ 9223372036854775807) :
    Calls Tryd.prog 7 #[.int .i64 r] w fun e w' => e = .returned (.bool true) ∧ Below w.heap.size w w' := by
  go_enter Tryd.func7, Tryd.ntmps7
  go_wp2_with (go_at_call 29; refine (gfold_any _ _ h1 h2).mono ?_)
  first | rintro e w1 rfl hb1 | rintro e w1 ⟨rfl, hb1⟩
  have ht1 := ht.below hb1 (Nat.le_refl _)
  go_wp2_with (go_at_call 25; refine (gscript_any _ _ ht1).mono ?_)
  first | rintro e w2 rfl hb2 | rintro e w2 ⟨rfl, hb2⟩
  have ht2 := ht1.below hb2 (Nat.le_refl _)
  have hb02 : Below w.heap.size w w2 := hb1.trans (hb2.mono hb1.size)
  rw [Gl.script_fold]
  go_wp2_with (go_at_call 25; refine (gscript_any _ _ ht2).mono ?_)
  first | rintro e w3 rfl hb3 | rintro e w3 ⟨rfl, hb3⟩
  have ht3 := ht2.below hb3 (Nat.le_refl _)
  have hb03 : Below w.heap.size w w3 := hb02.trans (hb3.mono hb02.size)
  have hf := Gl.fold_range h1 h2
  go_wp2_with (go_at_call 29; refine (gfold_any _ _ hf.1 hf.2).mono ?_)
  first | rintro e w4 rfl hb4 | rintro e w4 ⟨rfl, hb4⟩
  have ht4 := ht3.below hb4 (Nat.le_refl _)
  have hb04 : Below w.heap.size w w4 := hb03.trans (hb4.mono hb03.size)
  rw [Gl.fold_fold]
  go_wp2_with (go_at_call 22; refine (awake_any _ ht4).mono ?_)
  first | rintro e w5 rfl hb5 | rintro e w5 ⟨rfl, hb5⟩
  go_wp2_with fail
  go_ret
  exact ⟨rfl, hb04.trans (hb5.mono hb04.size)⟩

set_option maxHeartbeats 4000000 in
theorem law_widths (r l : Int) (w : World) (ht : Gl.Tab w) :
    Calls Tryd.prog 8 #[.int .i64 r, .int .i64 l] w fun e w' => e = .returned (.bool true) ∧ Below w.heap.size w w' := by
  go_enter Tryd.func8, Tryd.ntmps8
  go_wp2_with (go_at_call 27; refine (gwidth_any _ _ _ ht).mono ?_)
  first | rintro e w1 rfl hb1 | rintro e w1 ⟨rfl, hb1⟩
  have ht1 := ht.below hb1 (Nat.le_refl _)
  have h0 := Lib.hid (@Gl.width_zero r l)
  have h1 := Lib.hid (@Gl.width_pos r l)
  have h2 := Lib.hid (@Gl.width_mono r l)
  by_cases hl1 : l < 1
  · rw [h0.out (Or.inl hl1)]
    go_wp2_with (go_at_call 22; refine (awake_any _ ht1).mono ?_)
    first | rintro e w5 rfl hb5 | rintro e w5 ⟨rfl, hb5⟩
    go_wp2_with fail
    go_ret
    exact ⟨rfl, hb1.trans (hb5.mono hb1.size)⟩
  by_cases hl2 : 64 < l
  · rw [h0.out (Or.inr (Or.inl hl2))]
    go_wp2_with (go_at_call 22; refine (awake_any _ ht1).mono ?_)
    first | rintro e w5 rfl hb5 | rintro e w5 ⟨rfl, hb5⟩
    go_wp2_with fail
    go_ret
    exact ⟨rfl, hb1.trans (hb5.mono hb1.size)⟩
  by_cases hs : Gl.script r < 0
  · rw [h0.out (Or.inr (Or.inr hs))]
    go_wp2_with (go_at_call 25; refine (gscript_any _ _ ht1).mono ?_)
    first | rintro e w2 rfl hb2 | rintro e w2 ⟨rfl, hb2⟩
    have ht2 := ht1.below hb2 (Nat.le_refl _)
    have hb02 : Below w.heap.size w w2 := hb1.trans (hb2.mono hb1.size)
    go_wp2_with (go_at_call 22; refine (awake_any _ ht2).mono ?_)
    first | rintro e w5 rfl hb5 | rintro e w5 ⟨rfl, hb5⟩
    go_wp2_with fail
    go_ret
    exact ⟨rfl, hb02.trans (hb5.mono hb02.size)⟩
  obtain ⟨hp1, hp2⟩ := h1.out (by omega) (by omega) (by omega)
  go_wp2_with (go_at_call 25; refine (gscript_any _ _ ht1).mono ?_)
  first | rintro e w2 rfl hb2 | rintro e w2 ⟨rfl, hb2⟩
  have ht2 := ht1.below hb2 (Nat.le_refl _)
  have hb02 : Below w.heap.size w w2 := hb1.trans (hb2.mono hb1.size)
  by_cases h64 : l = 64
  · subst h64
    go_wp2_with (go_at_call 22; refine (awake_any _ ht2).mono ?_)
    first | rintro e w5 rfl hb5 | rintro e w5 ⟨rfl, hb5⟩
    go_wp2_with fail
    go_ret
    exact ⟨rfl, hb02.trans (hb5.mono hb02.size)⟩
  have hm := h2.out (by omega) (by omega) (by omega)
  go_wp2_with (go_at_call 27; refine (gwidth_any _ _ _ ht2).mono ?_)
  first | rintro e w3 rfl hb3 | rintro e w3 ⟨rfl, hb3⟩
  have ht3 := ht2.below hb3 (Nat.le_refl _)
  have hb03 : Below w.heap.size w w3 := hb02.trans (hb3.mono hb02.size)
  go_wp2_with (go_at_call 22; refine (awake_any _ ht3).mono ?_)
  first | rintro e w5 rfl hb5 | rintro e w5 ⟨rfl, hb5⟩
  go_wp2_with fail
  go_ret
  exact ⟨rfl, hb03.trans (hb5.mono hb03.size)⟩

def errOf (b : Bool) : Int := if b then 0 else 4
theorem EncPost.form {o : Option (List UInt8)} {w w' : World} {e : Ending} (h : EncPost o w e w') : e = .returned (.tuple #[.string ⟨(o.getD []).toArray⟩, .int .i64 (errOf o.isSome)]) ∧ Below w.heap.size w w' := h
theorem DecPost.form {o : Option (List Int)} {w w' : World} {e : Ending} (h : DecPost o w e w') : Below w.heap.size w w' ∧ ∃ v, OI w' w.heap.size v (o.getD []) ∧ e = .returned (.tuple #[v, .int .i64 (errOf o.isSome)]) := h

theorem law_encodes (A : Option Addr) (c : Nat) (xs : List Int) (w : World) (ht : Gl.Tab w) (hA : RI w A xs) (hx : xs.length ≤ 30000000000000) :
    Calls Tryd.prog 4 #[.slice A xs.length c] w fun e w' => e = .returned (.bool true) ∧ Below w.heap.size w w' := by
  go_enter Tryd.func4, Tryd.ntmps4
  go_wp2_with (go_at_call 23; refine (gencode_any _ _ _ _ ht hA hx).mono ?_)
  intro e w1 hp1
  obtain ⟨rfl, hb1⟩ := hp1.form
  have ht1 := ht.below hb1 (Nat.le_refl _)
  have hA1 := hA.below hb1
  go_wp2_with (go_at_call 24; refine (rencode_any _ _ _ _ hA1 hx).mono ?_)
  intro e w2 hp2
  obtain ⟨rfl, hb2⟩ := hp2.form
  have ht2 := ht1.below hb2 (Nat.le_refl _)
  have hb02 : Below w.heap.size w w2 := hb1.trans (hb2.mono hb1.size)
  go_wp2_with (go_at_call 22; refine (awake_any _ ht2).mono ?_)
  first | rintro e w5 rfl hb5 | rintro e w5 ⟨rfl, hb5⟩
  go_wp2_with fail
  go_ret
  exact ⟨rfl, hb02.trans (hb5.mono hb02.size)⟩

theorem law_orders (A : Option Addr) (c : Nat) (xs : List Int) (w : World) (ht : Gl.Tab w) (hA : RI w A xs) (hx : xs.length ≤ 9223372036854775807) (hc : xs.length ≤ c) :
    Calls Tryd.prog 9 #[.slice A xs.length c] w fun e w' => e = .returned (.bool true) ∧ Below w.heap.size w w' := by
  go_enter Tryd.func9, Tryd.ntmps9
  by_cases hl : 400 < xs.length
  · go_wp2_with (go_at_call 22; refine (awake_any _ ht).mono ?_)
    first | rintro e w5 rfl hb5 | rintro e w5 ⟨rfl, hb5⟩
    go_wp2_with fail
    go_ret
    exact ⟨rfl, hb5⟩
  go_wp2_with (go_at_call 31; refine (order_any _ _ _ _ ht hA (by omega) hc).mono ?_)
  rintro e w1 ⟨hb1, v1, rfl, ho1⟩
  have ht1 := ht.below hb1 (Nat.le_refl _)
  have hA1 := hA.below hb1
  go_wp2_with (go_at_call 32; refine (rorder_any _ _ _ _ hA1 (by omega) hc).mono ?_)
  rintro e w2 ⟨hb2, v2, rfl, ho2⟩
  have ht2 := ht1.below hb2 (Nat.le_refl _)
  have hb02 : Below w.heap.size w w2 := hb1.trans (hb2.mono hb1.size)
  have ho12 := ho1.below hb2 (Nat.le_refl _)
  obtain ⟨A1, c1, rfl, _, _, hR1⟩ := ho12.form
  obtain ⟨A2, c2, rfl, _, _, hR2⟩ := ho2.form
  have hol : (Gl.order xs).length ≤ 1000000000000000 := by rw [Gl.order_length]; omega
  go_wp2_with (go_at_call 21; refine (rsame_any _ _ _ _ _ _ _ hR1 hR2 hol).mono ?_)
  first | rintro e w3 rfl hb3 | rintro e w3 ⟨rfl, hb3⟩
  have ht3 := ht2.below hb3 (Nat.le_refl _)
  have hb03 : Below w.heap.size w w3 := hb02.trans (hb3.mono hb02.size)
  try rw [decide_eq_true rfl]
  go_wp2_with (go_at_call 22; refine (awake_any _ ht3).mono ?_)
  first | rintro e w5 rfl hb5 | rintro e w5 ⟨rfl, hb5⟩
  go_wp2_with fail
  go_ret
  exact ⟨rfl, hb03.trans (hb5.mono hb03.size)⟩

theorem law_decodes (s : ByteArray) (w : World) (ht : Gl.Tab w) (hs : s.size ≤ 10000000000000) :
    Calls Tryd.prog 3 #[.string s] w fun e w' => e = .returned (.bool true) ∧ Below w.heap.size w w' := by
  go_enter Tryd.func3, Tryd.ntmps3
  go_wp2_with (go_at_call 19; refine (gdecode_any _ _ ht hs).mono ?_)
  intro e w1 hp1
  obtain ⟨hb1, v1, ho1, rfl⟩ := hp1.form
  have ht1 := ht.below hb1 (Nat.le_refl _)
  go_wp2_with (go_at_call 20; refine (rdecode_any _ _ hs).mono ?_)
  intro e w2 hp2
  obtain ⟨hb2, v2, ho2, rfl⟩ := hp2.form
  have ht2 := ht1.below hb2 (Nat.le_refl _)
  have hb02 : Below w.heap.size w w2 := hb1.trans (hb2.mono hb1.size)
  have ho12 := ho1.below hb2 (Nat.le_refl _)
  obtain ⟨A1, c1, rfl, _, _, hR1⟩ := ho12.form
  obtain ⟨A2, c2, rfl, _, _, hR2⟩ := ho2.form
  have hol : ((Gl.decode s.data.toList).getD []).length ≤ 1000000000000000 := Nat.le_trans (Gl.decode_len _) (by simpa using Nat.le_trans hs (by decide))
  go_wp2_with (go_at_call 21; refine (rsame_any _ _ _ _ _ _ _ hR1 hR2 hol).mono ?_)
  first | rintro e w3 rfl hb3 | rintro e w3 ⟨rfl, hb3⟩
  have ht3 := ht2.below hb3 (Nat.le_refl _)
  have hb03 : Below w.heap.size w w3 := hb02.trans (hb3.mono hb02.size)
  try rw [decide_eq_true rfl]
  go_wp2_with (go_at_call 22; refine (awake_any _ ht3).mono ?_)
  first | rintro e w5 rfl hb5 | rintro e w5 ⟨rfl, hb5⟩
  go_wp2_with fail
  go_ret
  exact ⟨rfl, hb03.trans (hb5.mono hb03.size)⟩
end Go.Proofs.YtlcjfphhogcenaaDoor
