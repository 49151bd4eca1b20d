/-
  Laws for append of a slice of integers; slices.Grow and slices.Concat of integers.
-/
import Derived.Test.YtlcjfphhogcenaaDoorBaseC
import Derived.Lib.AppendZerosOnto
import Derived.Lib.SliceRun
import Derived.Lib.Walk
import Derived.Laws.AppendOwnNone
set_option linter.unusedVariables false
set_option linter.unusedSimpArgs false
namespace Go.Proofs.YtlcjfphhogcenaaDoor
open Go.RowKit

theorem OI.grown {w w' : World} {B : Nat} {v : Value} {xs : List Int} {row : Option Nat} (h : OI w B v xs) (hg : w.grownBy w' row) (hne : ∀ g, v.ownBlock = some g → row ≠ some g) : OI w' B v xs := by
  obtain ⟨h1, h2⟩ := h
  refine ⟨h1, ?_⟩
  rcases h2 with h2 | ⟨g, cap, cur, hv, hg', hh, r⟩
  · exact Or.inl h2
  · refine Or.inr ⟨g, cap, cur, hv, hg', (hg.block g (Array.getElem?_eq_some_iff.1 hh).1 (fun e => ?_)).trans hh, r⟩
    exact hne g (by rw [hv]; rfl) e.symm
theorem add_off (b off j : Nat) : (⟨b, off, none⟩ : Addr).add j = ⟨b, off + j, none⟩ := by
  unfold Addr.add; split <;> simp_all

/-- 'xs = append(xs, ys...)', xs the call's own, ys any slice that reads as integers. -/
theorem append_ints {ops : Array Oper} {rest : List Oper} {o : Oper} {a : Act} {Q : Exit → Act → World → Prop} (hgd : o.guard = none) (s x : Operand)
    (ho : o.op = .call { callee := .builtin .append, args := #[s, x], argTypes := #[22, 22] })
    (W : World) (base : Nat) (v : Value) (xs ys : List Int) (A : Option Addr) (c : Nat) (hs : a.eval s = v) (hown : OI W base v xs) (hA : RI W A ys) (hc0 : A = none → c = 0) (n : Nat) (hn : n = ys.length) (hx : a.eval x = .slice A n c)
    (hlen : xs.length + ys.length ≤ 10000000000000) (hbase : base ≤ W.heap.size)
    (h : ∀ v' w', OI w' base v' (xs ++ ys) → Below base W w' → W.grownBy w' v.ownBlock → wpList Tryd.prog ops Q rest (a.put o.dst v') w') :
    wpList Tryd.prog ops Q (o :: rest) a W := by
  subst hn
  obtain ⟨i0, hi, hz0, hz1, hz2⟩ := info_parts int_info
  have fin : ∀ v' w', w'.ownsRow base 3 1 v' (xs.length + ys.length) (xs.map (Value.int .i64) ++ ys.map (Value.int .i64)) → W.grownBy w' v.ownBlock → wpList Tryd.prog ops Q rest (a.put o.dst v') w' := fun v' w' hown' hg => by
    refine h v' w' (by simpa [OI] using hown') ⟨hg.os, hg.tape, hg.output, hg.size, fun k hk => hg.block k (by omega) (fun e => ?_)⟩ hg
    have := hown.own k e.symm
    omega
  cases A with
  | none =>
    have hy : ys = [] := by
      cases ys with
      | nil => rfl
      | cons y t => obtain ⟨b, off, e, _⟩ := hA 0 (by simp); cases e
    subst hy
    obtain rfl : c = 0 := hc0 rfl
    refine wpList_append_own_none hgd s x 22 ho base 3 i0 1 Tryd.underlying22 hi v xs.length (xs.map (Value.int .i64)) hs hown hx ?_
    subst hs
    refine h _ W (by simpa using hown) (Below.refl _ _) (grownBy_refl _ _)
  | some ad =>
    refine wpList_append_own _ hgd s x 22 ho base 3 i0 (.int .i64 0) 1 8 Tryd.underlying22 hi hz0 hz1 hz2 rfl (by decide) v xs.length (xs.map (Value.int .i64)) hs hown ad ys.length c (ys.map (Value.int .i64)) hx (by simp) (fun j u hj => ?_) (by simp [Value.oneCell']) (by unfold maxLen; omega) (by omega) hbase ?_
    · have hjl : j < ys.length := by
        have := (List.getElem?_eq_some_iff.1 hj).1
        simpa using this
      obtain ⟨b, off, e, _, hc⟩ := hA j hjl
      injection e with e
      subst e
      rw [add_off, hc j hjl, ← hj, List.getElem?_map, List.getElem?_eq_getElem hjl, gi_eq hjl]; rfl
    · intro v' w' hown' hg _
      exact fin v' w' hown' hg

/-- slices.Grow(nil, n): room for n integers. -/
def GrowPost (w : World) (e : Ending) (w' : World) : Prop := Below w.heap.size w w' ∧ ∃ v, e = .returned v ∧ OI w' w.heap.size v []

set_option maxHeartbeats 4000000 in
set_option maxRecDepth 100000 in
theorem growNil_any (n : Nat) (hn : n ≤ 10000000000000) (w : World) :
    Calls Tryd.prog 78 #[.slice none 0 0, .int .i64 n] w (GrowPost w) := by
  by_cases h0 : n = 0
  · subst h0
    go_enter Tryd.func78, Tryd.ntmps78
    go_wp2
    go_ret
    exact ⟨Below.refl _ _, _, rfl, OI.nil _ _⟩
  obtain ⟨i0, hi0, hz0, hz1, hz2⟩ := info_parts int_info
  have hold : (Builtin.firstCells i0.size 0 (.slice none 0 0)).run Tryd.prog w.drew = .ok #[] w.drew := run_firstCells_none w.drew i0.size 0 0 0
  have hrz : ∀ ty, (Builtin.append_ #[22, 3] ty #[.slice none 0 0, .int .i64 (n : Int)]).run Tryd.prog w =
      .ok (.slice (some ⟨w.heap.size, 0, none⟩) n (grownCap w n 0 3)) (w.drew.alloc (.cells (#[] ++ Builtin.zeroCells (Value.int .i64 0).cells n ++ Builtin.zeroCells (Value.int .i64 0).cells (grownCap w n 0 3 - n)) 3)) := fun ty => by
    have h := Lib.run_append_grow_zeros (P := Tryd.prog) w 22 3 ty 3 i0 (.int .i64 0) .i64 .i64 Tryd.underlying22 Tryd.underlying3 hi0 hz0 none 0 0 [] hold n (by omega) (by omega) (by omega) (by omega)
      (by rw [hz2]; omega)
      (by rw [Nat.zero_add]; exact growslice_fits (by omega) (by rw [hz2]; omega))
    simp only [Nat.zero_add] at h
    exact h
  have hGn : n ≤ grownCap w n 0 3 := grownCap_ge w _ _ _
  have hG63 : grownCap w n 0 3 ≤ maxLen := grownCap_le_maxLen w n 0 3 (by unfold maxLen; omega)
  generalize grownCap w n 0 3 = G at hrz hGn hG63
  have hcell : (w.drew.alloc (.cells (#[] ++ Builtin.zeroCells (Value.int .i64 0).cells n ++ Builtin.zeroCells (Value.int .i64 0).cells (G - n)) 3)).heap[w.heap.size]? = some (.cells (#[] ++ Builtin.zeroCells (Value.int .i64 0).cells n ++ Builtin.zeroCells (Value.int .i64 0).cells (G - n)) 3) := heap_alloc_new w.drew _
  have hsz : (#[] ++ Builtin.zeroCells (Value.int .i64 0).cells n ++ Builtin.zeroCells (Value.int .i64 0).cells (G - n)).size = G * 1 := by
    simp [size_zeroCells, Value.cells]; omega
  have hown : OI (w.drew.alloc (.cells (#[] ++ Builtin.zeroCells (Value.int .i64 0).cells n ++ Builtin.zeroCells (Value.int .i64 0).cells (G - n)) 3)) w.heap.size (.slice (some ⟨w.heap.size, 0, none⟩) 0 G) [] :=
    ⟨by simp, Or.inr ⟨_, G, _, rfl, Nat.le_refl _, hcell, Nat.zero_le _, hG63, hsz, by simp⟩⟩
  have hbel : Below w.heap.size w (w.drew.alloc (.cells (#[] ++ Builtin.zeroCells (Value.int .i64 0).cells n ++ Builtin.zeroCells (Value.int .i64 0).cells (G - n)) 3)) := ((Below.refl _ w).drew).alloc (Nat.le_refl _) _
  generalize w.drew.alloc (.cells (#[] ++ Builtin.zeroCells (Value.int .i64 0).cells n ++ Builtin.zeroCells (Value.int .i64 0).cells (G - n)) 3) = w2 at *
  unfold maxLen at hG63
  clear hcell hsz hold
  have h1 : ¬ ((n : Int) < 0) := by omega
  have h4 : 0 < (n : Int) := by omega
  have HRZ := Lib.hid hrz
  clear hrz
  go_enter Tryd.func78, Tryd.ntmps78
  go_wp2_with (at_builtin; refine Lib.wpList_append_run _ rfl _ _ _ _ rfl _ _ rfl rfl _ _ (HRZ.out _) ?_)
  all_goals (go_ret; exact ⟨hbel, _, rfl, hown⟩)

/-- The k-th list. -/
def gl (xss : List (List Int)) (k : Nat) : List Int := xss.getD k []
theorem gl_eq {xss : List (List Int)} {k : Nat} (h : k < xss.length) : gl xss k = xss[k] := by simp [gl, h]
theorem take_gl {xss : List (List Int)} {k : Nat} (h : k < xss.length) : xss.take (k + 1) = xss.take k ++ [gl xss k] := by
  rw [gl_eq h, List.take_succ_eq_append_getElem h]
/-- The slice of slices at A reads as these lists of integers. -/
def RL (w : World) (A : Option Addr) (xss : List (List Int)) : Prop :=
  ∀ k, k < xss.length → ∃ b off A' c', A = some ⟨b, off, none⟩ ∧ b < w.heap.size ∧ w.cell? ⟨b, off + k, none⟩ = some (.slice A' (gl xss k).length c') ∧ RI w A' (gl xss k) ∧ (A' = none → c' = 0)
theorem flat_take {xss : List (List Int)} {k : Nat} (h : k < xss.length) : (xss.take (k + 1)).flatten = (xss.take k).flatten ++ gl xss k := by
  rw [take_gl h]; simp
theorem flat_take_le (xss : List (List Int)) (k : Nat) : (xss.take k).flatten.length ≤ xss.flatten.length := by
  have := congrArg (fun l : List (List Int) => l.flatten.length) (List.take_append_drop k xss)
  simp only [List.flatten_append, List.length_append] at this
  omega
/-- How many integers the first k lists have. -/
def flen (xss : List (List Int)) (k : Nat) : Nat := (xss.take k).flatten.length
theorem flen_succ {xss : List (List Int)} {k : Nat} (h : k < xss.length) : flen xss (k + 1) = flen xss k + (gl xss k).length := by
  unfold flen; rw [flat_take h, List.length_append]
theorem flen_le (xss : List (List Int)) (k : Nat) : flen xss k ≤ xss.flatten.length := flat_take_le xss k
/-- A list of integers of the call's own. -/
def ListPost (xs : List Int) (w : World) (e : Ending) (w' : World) : Prop := Below w.heap.size w w' ∧ ∃ v, e = .returned v ∧ OI w' w.heap.size v xs

set_option maxHeartbeats 4000000 in
theorem concat_any (A : Option Addr) (c : Nat) (xss : List (List Int)) (w : World) (hA : RL w A xss) (hx : xss.flatten.length ≤ 10000000000000) (hx2 : xss.length ≤ 10000000000000) :
    Calls Tryd.prog 58 #[.slice A xss.length c] w (ListPost xss.flatten w) := by
  go_enter Tryd.func58, Tryd.ntmps58
  go_wp2_with fail
  go_loopw [3, 11] (fun n i wr => ∃ k : Nat, k ≤ xss.length ∧ i = .int .i64 k ∧ n = .int .i64 (flen xss k) ∧ w = wr) (fun _ i _ => xss.length - (intOf i).toNat)
  case atStart => exact ⟨0, by omega, rfl, rfl, rfl⟩
  case round =>
    obtain ⟨k, hk, rfl, rfl, rfl⟩ := hrel
    have hle := Nat.le_trans (flen_le xss k) hx
    by_cases hlt : k < xss.length
    · obtain ⟨b, off, A', c', rfl, hb, hc, hR, _⟩ := hA k hlt
      have HF := Lib.hid (flen_succ hlt)
      have hsum : flen xss k + (gl xss k).length ≤ 10000000000000 := by have := HF.out; have := Nat.le_trans (flen_le xss (k + 1)) hx; omega
      clear hA hR
      go_wp2_with fail
      go_roundw
      case rel => exact ⟨k + 1, by omega, by go_num, by rw [HF.out]; go_num, trivial⟩
      case measure => simp [intOf]; omega
    · obtain rfl : k = xss.length := by omega
      go_wp2_with (go_at_call 78; refine (growNil_any _ hle _).mono ?_)
      rintro e w1 ⟨hb1, v1, rfl, hown1⟩
      go_wp2_with fail
      go_loopw [6, 27] (fun v i wr => ∃ k : Nat, k ≤ xss.length ∧ i = .int .i64 k ∧ OI wr w.heap.size v (xss.take k).flatten ∧ Below w.heap.size w wr) (fun _ i _ => xss.length - (intOf i).toNat)
      case atStart => exact ⟨0, by omega, rfl, hown1, hb1⟩
      case round =>
        obtain ⟨k, hk, rfl, hown, hbw⟩ := hrel
        have hsz := hbw.size
        have hle := flat_take_le xss k
        by_cases hlt : k < xss.length
        · obtain ⟨b, off, A', c', rfl, hb, hc, hR, hnil⟩ := hA k hlt
          have hc' := (hbw.cell (p := ⟨b, off + k, none⟩) hb).trans hc
          have hR' := hR.below hbw
          have hle2 := flat_take_le xss (k + 1)
          have HF := Lib.hid (flat_take hlt)
          have hsum : (xss.take k).flatten.length + (gl xss k).length ≤ 10000000000000 := by have := congrArg List.length HF.out; rw [List.length_append] at this; omega
          clear hc hR hA hle2
          go_wp2_with (at_builtin; go_loud (refine append_ints rfl _ _ rfl wr w.heap.size u6 (xss.take k).flatten (gl xss k) A' c' rfl hown hR' hnil _ rfl rfl hsum hsz ?_); intro v' w2 hown2 hb2 hg2)
          go_roundw
          case rel => exact ⟨k + 1, by omega, by go_num, by rw [HF.out]; exact hown2, hbw.trans hb2⟩
          case measure => simp [intOf]; omega
        · obtain rfl : k = xss.length := by omega
          go_wp2_with fail
          go_ret
          exact ⟨hbw, _, rfl, by rw [List.take_length] at hown; exact hown⟩
end Go.Proofs.YtlcjfphhogcenaaDoor
