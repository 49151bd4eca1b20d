/-
  slices.Grow, slices.Concat at entries; slices.Compact at the example; gazetteer.set and gazetteer.Merge at the example.
-/
import Derived.Test.YtcbobceggjndlaaGreatDoorGzH
import Derived.Lib.SliceRun
set_option linter.unusedVariables false
set_option linter.unusedSimpArgs false
namespace Go.Proofs.YtcbobceggjndlaaGreatDoor
open Go.RowKit

/-- slices.Grow(nil, n): room for n entries. -/
def GrowPostE (w : World) (e : Ending) (w' : World) : Prop := Below w.heap.size w w' ∧ ∃ v, e = .returned v ∧ OE w' w.heap.size v []
def zEnt : Value := .agg #[.string ⟨#[]⟩, .int .i64 0, .int .i64 0, .string ⟨#[]⟩]
theorem zEnt_cells : zEnt.cells = #[.string ⟨#[]⟩, .int .i64 0, .int .i64 0, .string ⟨#[]⟩] := by kernel_rfl

set_option maxHeartbeats 4000000 in
set_option maxRecDepth 100000 in
theorem growNilE (n : Nat) (hn : n ≤ 1000000000000) (w : World) :
    Calls Tryz.prog 60 #[.slice none 0 0, .int .i64 n] w (GrowPostE w) := by
  by_cases h0 : n = 0
  · subst h0
    go_enter Tryz.func60, Tryz.ntmps60
    go_wp2
    go_ret
    exact ⟨Below.refl _ _, _, rfl, OE.nil _ _⟩
  obtain ⟨i0, hi0, hz0, hz1, hz2⟩ := info_parts ent_info
  have hold : (Builtin.firstCells i0.size 0 (.slice none 0 0)).run Tryz.prog w.drew = .ok #[] w.drew := run_firstCells_none w.drew i0.size 0 0 0
  have hrz : ∀ ty, (Builtin.append_ #[22, 3] ty #[.slice none 0 0, .int .i64 (n : Int)]).run Tryz.prog w =
      .ok (.slice (some ⟨w.heap.size, 0, none⟩) n (grownCap w n 0 29)) (w.drew.alloc (.cells (#[] ++ Builtin.zeroCells zEnt.cells n ++ Builtin.zeroCells zEnt.cells (grownCap w n 0 29 - n)) 29)) := fun ty => by
    have h := Lib.run_append_grow_zeros (P := Tryz.prog) w 22 3 ty 29 i0 zEnt .i64 .i64 Tryz.underlying22 Tryz.underlying3 hi0 hz0 none 0 0 [] hold n (by omega) (by omega) (by omega) (by omega)
      (by rw [hz2]; omega)
      (by rw [Nat.zero_add]; exact growslice_fits (by omega) (by rw [hz2]; omega))
    simp only [Nat.zero_add] at h
    exact h
  have hGn : n ≤ grownCap w n 0 29 := grownCap_ge w _ _ _
  have hG63 : grownCap w n 0 29 ≤ maxLen := grownCap_le_maxLen w n 0 29 (by unfold maxLen; omega)
  generalize grownCap w n 0 29 = G at hrz hGn hG63
  have hcell : (w.drew.alloc (.cells (#[] ++ Builtin.zeroCells zEnt.cells n ++ Builtin.zeroCells zEnt.cells (G - n)) 29)).heap[w.heap.size]? = some (.cells (#[] ++ Builtin.zeroCells zEnt.cells n ++ Builtin.zeroCells zEnt.cells (G - n)) 29) := heap_alloc_new w.drew _
  have hsz : (#[] ++ Builtin.zeroCells zEnt.cells n ++ Builtin.zeroCells zEnt.cells (G - n)).size = G * 4 := by
    rw [zEnt_cells]
    simp [size_zeroCells]; omega
  have hown : OE (w.drew.alloc (.cells (#[] ++ Builtin.zeroCells zEnt.cells n ++ Builtin.zeroCells zEnt.cells (G - n)) 29)) w.heap.size (.slice (some ⟨w.heap.size, 0, none⟩) 0 G) [] :=
    ⟨by simp, Or.inr ⟨_, G, _, rfl, Nat.le_refl _, hcell, Nat.zero_le _, hG63, hsz, by simp⟩⟩
  have hbel : Below w.heap.size w (w.drew.alloc (.cells (#[] ++ Builtin.zeroCells zEnt.cells n ++ Builtin.zeroCells zEnt.cells (G - n)) 29)) := ((Below.refl _ w).drew).alloc (Nat.le_refl _) _
  generalize w.drew.alloc (.cells (#[] ++ Builtin.zeroCells zEnt.cells n ++ Builtin.zeroCells zEnt.cells (G - n)) 29) = w2 at *
  unfold maxLen at hG63
  clear hcell hsz hold
  have h1 : ¬ ((n : Int) < 0) := by omega
  have h4 : 0 < (n : Int) := by omega
  have HRZ := Lib.hid hrz
  clear hrz
  go_enter Tryz.func60, Tryz.ntmps60
  go_wp2_with (at_builtin; refine Lib.wpList_append_run _ rfl _ _ _ _ rfl _ _ rfl rfl _ _ (HRZ.out _) ?_)
  all_goals (go_ret; exact ⟨hbel, _, rfl, hown⟩)

/-- The k-th list. -/
def gle (xss : List (List Ent)) (k : Nat) : List Ent := xss.getD k []
theorem gle_eq {xss : List (List Ent)} {k : Nat} (h : k < xss.length) : gle xss k = xss[k] := by simp [gle, h]
theorem take_gle {xss : List (List Ent)} {k : Nat} (h : k < xss.length) : xss.take (k + 1) = xss.take k ++ [gle xss k] := by
  rw [gle_eq h, List.take_succ_eq_append_getElem h]
/-- The slice of slices at A reads as these lists of entries. -/
def RLE (w : World) (A : Option Addr) (xss : List (List Ent)) : Prop :=
  ∀ k, k < xss.length → ∃ b off A' c', A = some ⟨b, off, none⟩ ∧ b < w.heap.size ∧ w.cell? ⟨b, off + k, none⟩ = some (.slice A' (gle xss k).length c') ∧ RE w A' (gle xss k) ∧ (A' = none → (gle xss k).length = 0 ∧ c' = 0)
theorem flatE_take {xss : List (List Ent)} {k : Nat} (h : k < xss.length) : (xss.take (k + 1)).flatten = (xss.take k).flatten ++ gle xss k := by
  rw [take_gle h]; simp
theorem flatE_take_le (xss : List (List Ent)) (k : Nat) : (xss.take k).flatten.length ≤ xss.flatten.length := by
  have := congrArg (fun l : List (List Ent) => l.flatten.length) (List.take_append_drop k xss)
  simp only [List.flatten_append, List.length_append] at this
  omega
/-- How many entries the first k lists have. -/
def flenE (xss : List (List Ent)) (k : Nat) : Nat := (xss.take k).flatten.length
theorem flenE_succ {xss : List (List Ent)} {k : Nat} (h : k < xss.length) : flenE xss (k + 1) = flenE xss k + (gle xss k).length := by
  unfold flenE; rw [flatE_take h, List.length_append]
theorem flenE_le (xss : List (List Ent)) (k : Nat) : flenE xss k ≤ xss.flatten.length := flatE_take_le xss k
/-- A list of entries of the call's own. -/
def EntsPost (xs : List Ent) (w : World) (e : Ending) (w' : World) : Prop := Below w.heap.size w w' ∧ ∃ v, e = .returned v ∧ OE w' w.heap.size v xs

set_option maxHeartbeats 4000000 in
theorem concatE (A : Option Addr) (c : Nat) (xss : List (List Ent)) (w : World) (hA : RLE w A xss) (hx : xss.flatten.length ≤ 1000000000000) (hx2 : xss.length ≤ 1000000000000) :
    Calls Tryz.prog 24 #[.slice A xss.length c] w (EntsPost xss.flatten w) := by
  go_enter Tryz.func24, Tryz.ntmps24
  go_wp2_with fail
  go_loopw [3, 11] (fun n i wr => ∃ k : Nat, k ≤ xss.length ∧ i = .int .i64 k ∧ n = .int .i64 (flenE xss k) ∧ w = wr) (fun _ i _ => xss.length - (intOf i).toNat)
  case atStart => exact ⟨0, by omega, rfl, rfl, rfl⟩
  case round =>
    obtain ⟨k, hk, rfl, rfl, rfl⟩ := hrel
    have hle := Nat.le_trans (flenE_le xss k) hx
    by_cases hlt : k < xss.length
    · obtain ⟨b, off, A', c', rfl, hb, hc, hR, _⟩ := hA k hlt
      have HF := Lib.hid (flenE_succ hlt)
      have hsum : flenE xss k + (gle xss k).length ≤ 1000000000000 := by have := HF.out; have := Nat.le_trans (flenE_le xss (k + 1)) hx; omega
      clear hA hR
      go_wp2_with fail
      go_roundw
      case rel => exact ⟨k + 1, by omega, by go_num, by rw [HF.out]; go_num, trivial⟩
      case measure => simp [intOf]; omega
    · obtain rfl : k = xss.length := by omega
      go_wp2_with (go_at_call 60; refine (growNilE _ hle _).mono ?_)
      rintro e w1 ⟨hb1, v1, rfl, hown1⟩
      go_wp2_with fail
      go_loopw [6, 27] (fun v i wr => ∃ k : Nat, k ≤ xss.length ∧ i = .int .i64 k ∧ OE wr w.heap.size v (xss.take k).flatten ∧ Below w.heap.size w wr) (fun _ i _ => xss.length - (intOf i).toNat)
      case atStart => exact ⟨0, by omega, rfl, hown1, hb1⟩
      case round =>
        obtain ⟨k, hk, rfl, hown, hbw⟩ := hrel
        have hsz := hbw.size
        have hle := flatE_take_le xss k
        by_cases hlt : k < xss.length
        · obtain ⟨b, off, A', c', rfl, hb, hc, hR, hnil⟩ := hA k hlt
          have hc' := (hbw.cell (p := ⟨b, off + k, none⟩) hb).trans hc
          have hR' := hR.below hbw
          have hle2 := flatE_take_le xss (k + 1)
          have HF := Lib.hid (flatE_take hlt)
          have hsum : (xss.take k).flatten.length + (gle xss k).length ≤ 1000000000000 := by have := congrArg List.length HF.out; rw [List.length_append] at this; omega
          have HN := Lib.hid hnil
          have hsum2 : ((xss.take k).flatten.length + (gle xss k).length) * 48 ≤ 140737488355328 := by omega
          clear hc hR hA hle2 hnil
          go_wp2_with (at_builtin; go_loud (refine append_ents rfl _ _ rfl wr w.heap.size u6 (xss.take k).flatten (gle xss k) rfl hown A' (gle xss k).length c' rfl rfl hR' HN.out hsum2 hsz ?_); intro v' w2 hown2 hb2 hg2)
          go_roundw
          case rel => exact ⟨k + 1, by omega, by go_num, by rw [HF.out]; exact hown2, hbw.trans hb2⟩
          case measure => simp [intOf]; omega
        · obtain rfl : k = xss.length := by omega
          go_wp2_with fail
          go_ret
          exact ⟨hbw, _, rfl, by rw [List.take_length] at hown; exact hown⟩
/-- The example's entries. -/
def exA : Ent := ⟨⟨#[85, 114]⟩, 7, 1, ⟨#[65, 49, 45, 98, 50]⟩⟩
def exB : Ent := ⟨⟨#[117, 114]⟩, 5, 2, ⟨#[66, 49, 45, 97, 49]⟩⟩
def exE : Bool → Ent := fun b => if b then exB else exA
theorem run_clear_ent (w : World) (ty : TypeId) (b o c : Nat) (hc : ∀ j, j < 4 → (w.cell? ⟨b, o + j, none⟩).isSome = true) (hf : ∀ j, j < 4 → w.frozen? ⟨b, o + j, none⟩ = false) :
    (Builtin.clear_ #[22] ty #[.slice (some ⟨b, o, none⟩) 1 c]).run Tryz.prog w = .ok (.tuple #[]) (w.setCells b o [.string ⟨#[]⟩, .int .i64 0, .int .i64 0, .string ⟨#[]⟩]) := by
  have hzc : (Builtin.zeroCells zEnt.cells 1).toList = [.string ⟨#[]⟩, .int .i64 0, .int .i64 0, .string ⟨#[]⟩] := by rw [zEnt_cells]; kernel_rfl
  have hst := run_storeCells_cells (P := Tryz.prog) b o [.string ⟨#[]⟩, .int .i64 0, .int .i64 0, .string ⟨#[]⟩] 0 w (by simpa using hc) (by simpa using hf) (by intro v hv'; simp at hv'; rcases hv' with rfl | rfl | rfl | rfl <;> rfl)
  simp only [Nat.add_zero] at hst
  have hv : ∀ w, (zeroValue 29).run Tryz.prog w = .ok zEnt w := fun w => by kernel_rfl
  simp [Builtin.clear_, run_underlying Tryz.underlying22, hv, hzc, hst]
end Go.Proofs.YtcbobceggjndlaaGreatDoor
