/-
  The rule of feature.Check that no part is shared: a map whose keys are pairs of numbers.
-/
import Derived.Test.YtcbobceggjndlaaGreatDoorSvJ
import Derived.DeepKeys4
import Derived.Maps.Views
set_option linter.unusedVariables false
set_option linter.unusedSimpArgs false
namespace Go.Proofs.YtcbobceggjndlaaGreatDoor
open Go.RowKit

theorem laid_out : laidOutB Tryz.prog = true := by kernel_rfl
theorem pair_keyed : Maps.Keyed Tryz.prog 123 := Maps.Keyed.of_law (deep_law_laid laid_out (m := 2) (by decide) (of_decide_eq_true (by kernel_rfl)) (by kernel_rfl) (by kernel_rfl))
theorem pair_type : Tryz.prog.keyType 123 = true := by kernel_rfl
theorem pair_cells : Tryz.prog.cellsOf 123 = 2 := by kernel_rfl
theorem int_cells : Tryz.prog.cellsOf 3 = 1 := by kernel_rfl
theorem pair_lt : 123 < Tryz.prog.types.size := of_decide_eq_true (by kernel_rfl)
theorem pair_lits (d : Nat) (p : Int) (hw : (Lit.int .i64 p).wf = true) : Tryz.prog.keyLits (d + 1 + 1) 123 [.int .i64 0, .int .i64 p] = some [.int .i64 0, .int .i64 p] := by
  have hw0 : (Lit.int .i64 0).wf = true := by decide
  have e : ∀ q : Int, (Lit.int .i64 q).wf = true → Tryz.prog.keyLits (d + 1) 3 [.int .i64 q] = some [.int .i64 q] := fun q hq => by
    simp only [Program.keyLits, Tryz.underlying3]
    simp [hq]
  unfold Program.keyLits
  simp only [Tryz.underlying123]
  simp [pair_cells, int_cells, List.range_succ, e 0 hw0, e p hw]
theorem pair_key (p : Int) (h1 : -9223372036854775808 ≤ p) (h2 : p ≤ 9223372036854775807) : ∃ kl, keyOf Tryz.prog 123 (.agg #[.int .i64 0, .int .i64 p]) = some kl := by
  have hw := int_wf h1 h2
  unfold keyOf
  rw [Tryz.underlying123]
  have hform : Value.formed Tryz.prog 123 (.agg #[.int .i64 0, .int .i64 p]) = true := by
    simp [Value.formed, Tryz.underlying123, pair_cells]
  simp only [pair_type, hform, Bool.and_self, if_true]
  obtain ⟨d, hd⟩ : ∃ d, Tryz.prog.types.size + 1 = d + 1 + 1 := ⟨Tryz.prog.types.size - 1, by have := pair_lt; omega⟩
  rw [hd]
  have hls := pair_lits d p hw
  rw [show (Value.agg #[.int .i64 0, .int .i64 p]).cells.toList = [.int .i64 0, .int .i64 p] from rfl]
  rw [hls]
  exact ⟨_, rfl⟩

theorem elem_bool {v : Value} {b : Bool} {ps : List MemPlace} (h : plainElem (H := Unit) Tryz.prog 4 v = some (.lit (.bool b), ps)) : v = .bool b := by
  unfold plainElem at h
  split at h
  · simp at h
    rw [h.1]
  · split at h
    · simp at h
    · cases h
  · split at h
    · simp at h
    · cases h
  · cases h
/-- The state of the rule: the map of the parts so far. -/
def Used (bm bv : Nat) (ps : Nat → Int) (k : Nat) (W : World) : Prop :=
  Bk W bv 122 #[.map (some bm)] ∧ bv ≠ bm ∧ ∃ D : DataW Unit, W.ownsMap Tryz.prog 123 (plainElem Tryz.prog 4) bm k D ∧
    ∀ p kl, keyOf Tryz.prog 123 (.agg #[.int .i64 0, .int .i64 p]) = some kl → (∀ j, j < k → ps j ≠ p) → D.atKey kl (.lit (.bool false)) = .lit (.bool false)

set_option maxHeartbeats 4000000 in
theorem shared1_ok (f : Ftr) (p : Int) (bm bv k : Nat) (ps : Nat → Int) (w0 W : World) (hU : Used bm bv ps k W) (hk : k ≤ 1000) (hp : f.parts = [p]) (hpn : f.pn = 1) (hpk : ps k = p) (hnew : ∀ j, j < k → ps j ≠ p) (h1 : -9223372036854775808 ≤ p) (h2 : p ≤ 9223372036854775807)
    (hf : RI W f.pA f.parts) (hkind : f.kind = 1 ∨ f.kind = 2 ∨ f.kind = 8) (hbW : Below w0.heap.size w0 W) (hB1 : w0.heap.size ≤ bm) :
    Calls Tryz.prog 85 #[fv f, .pointer (some ⟨bv, 0, none⟩)] W fun e W' => e = .returned (.bool false) ∧ Used bm bv ps (k + 1) W' ∧ Below w0.heap.size w0 W' ∧ W.grownBy W' (some bm) := by
  obtain ⟨hbv, hvm, D, hown, hD⟩ := hU
  obtain ⟨kl, hkl⟩ := pair_key p h1 h2
  have hD0 := hD p kl hkl hnew
  obtain ⟨b1, o1, hA1, hbb1, hc1⟩ := hf 0 (by rw [hp]; simp)
  have hc0 := hc1 0 (by rw [hp]; simp)
  rw [hp] at hc0
  have cc : W.cell? ⟨b1, o1, none⟩ = some (.int .i64 p) := hc0
  have HK := Lib.hid hkind
  have HKL := Lib.hid hkl
  have HDD := Lib.hid hD
  unfold fv
  rw [hpn, hA1]
  clear hc1 hc0 hf hkind hkl hD hA1 hnew
  go_enter Tryz.func85, Tryz.ntmps85
  go_wp2_with fail
  refine (shape_point _ _ HK.out).mono ?_
  first | rintro e w1 rfl rfl | rintro e w1 ⟨rfl, rfl⟩
  have hb2 : Below W.heap.size W (W.alloc (.cells #[.int .i64 f.id, .int .i64 f.kind, .int .i64 f.cls, .string f.name, .slice (some ⟨b1, o1, none⟩) 1 f.pc] 40)) := (Below.refl _ _).alloc (Nat.le_refl _) _
  have hb3 := (Below.refl _ (W.alloc (.cells #[.int .i64 f.id, .int .i64 f.kind, .int .i64 f.cls, .string f.name, .slice (some ⟨b1, o1, none⟩) 1 f.pc] 40))).alloc (Nat.le_refl _) (.cells #[.int .i64 0, .int .i64 p] 123)
  have hb23 := hb2.trans (hb3.mono (by simp))
  have hown3 := (hown.alloc (.cells #[.int .i64 f.id, .int .i64 f.kind, .int .i64 f.cls, .string f.name, .slice (some ⟨b1, o1, none⟩) 1 f.pc] 40)).alloc (.cells #[.int .i64 0, .int .i64 p] 123)
  have hbv3 := hbv.below hb23 hbv.lt
  obtain ⟨v, pz, hrun, hv⟩ := hown3.lookup pair_keyed Tryz.underlying122 (z := .bool false) (by exact Tryz.zeroValue4 _) (plainElem_bool Tryz.underlying4 false) HKL.out
  rw [hD0] at hv
  obtain rfl := elem_bool hv
  have HOWN := Lib.hid hown3
  have q3 := hbv3.cell 0
  simp only [List.getElem?_toArray, List.getElem?_cons_zero] at q3
  have hz0 := hbW.size
  clear hv hD0 hown hown3 hbv
  have hlv := hbv3.lt
  go_wp2_with fail
  refine wp_loop_rounds 2 ?_
  rw [rounds_succ]
  go_wp2_with (at_mapUpdate; refine wpList_mapUpdate_own _ rfl _ _ _ 122 rfl 123 4 pair_keyed Tryz.underlying122 (plainElem Tryz.prog 4) bm k D rfl HOWN.out (by unfold maxLen; omega) (.agg #[.int .i64 0, .int .i64 p]) (.bool true) kl rfl rfl HKL.out _ [] (plainElem_bool Tryz.underlying4 true) ?_; intro w4 hown4 hg4)
  rw [rounds_succ]
  have hbm0 : some bv ≠ some bm := fun e => hvm (by injection e)
  have hbv4 := Bk.grown hbv3 hg4 hbm0
  have hb4 : Below w0.heap.size w0 w4 := (hbW.trans (hb23.mono hz0)).trans (grown_below hg4 hB1 (by have := hb23.size; omega))
  go_wp2_with fail
  go_ret
  refine ⟨rfl, ⟨hbv4, hvm, _, hown4, fun p' kl' hk' hn' => ?_⟩, hb4, grown_trans (grown_of hb23 _) hg4⟩
  have hne : p' ≠ p := fun e => hn' k (by omega) (by rw [e]; exact hpk)
  have hkne : kl' ≠ kl := fun e => by
    rw [e] at hk'
    have := pair_keyed.inj hk' HKL.out
    simp at this
    exact hne this
  rw [Go.Maps.atKey_put_other hkne]
  exact HDD.out p' kl' hk' (fun j hj => hn' j (by omega))

theorem shared_ok (w : World) : Calls Tryz.prog 51 #[] w fun e w' => e = .returned (.func (.func 85) #[] #[.pointer (some ⟨w.heap.size + 1, 0, none⟩)]) ∧ Below w.heap.size w w' ∧ ∀ ps, Used w.heap.size (w.heap.size + 1) ps 0 w' := by
  have hmk := fun (W : World) => run_makeMap (P := Tryz.prog) 122 W
  go_enter Tryz.func51, Tryz.ntmps51
  go_wp2_with fail
  go_ret
  refine ⟨rfl, ((Below.refl _ _).alloc (Nat.le_refl _) _).alloc (by simp) _, fun ps => ⟨?_, by omega, .map [], (World.ownsMap_made w _ _ _).alloc _, fun p kl _ _ => rfl⟩⟩
  have := Bk.new (w.alloc (.map #[] 0)) #[.map (some w.heap.size)] 122
  simpa using this
end Go.Proofs.YtcbobceggjndlaaGreatDoor
