/-
  Walks of layer 6: Order of the program.
-/
import Derived.Test.YtlcjfphhogcenaaDoorGlyphI
import Derived.Test.YtlcjfphhogcenaaDoorGlyphJ
import Derived.Lib.RowBridge
set_option linter.unusedVariables false
set_option linter.unusedSimpArgs false
namespace Go.Proofs.YtlcjfphhogcenaaDoor
open Go.RowKit Go.Lib Go.Sort

/-- A slice's three numbers, and its value. -/
abbrev Sl := Option Addr × Nat × Nat
def sv (t : Sl) : Value := .slice t.1 t.2.1 t.2.2
theorem sv_one : OneCell sv := fun t => rfl

/-- The slice of slices v is the call's own (from block B on), and so are the lists in it. -/
def OR (w : World) (B : Nat) (v : Value) (xss : List (List Int)) : Prop :=
  ∃ ts : List Sl, w.ownsRow B 22 1 v ts.length (ts.map sv) ∧ ts.length = xss.length ∧ ∀ i t, ts[i]? = some t → OI w B (sv t) (gl xss i)
theorem OR.nil (w : World) (B : Nat) : OR w B (.slice none 0 0) [] := ⟨[], ⟨by simp, Or.inl ⟨rfl, rfl⟩⟩, rfl, fun i t h => by simp at h⟩
theorem ownsRow_below {w w' : World} {B D : Nat} {e : TypeId} {v : Value} {n : Nat} {xs : List Value} (h : w.ownsRow B e 1 v n xs) (hb : Below D w w') (hD : w.heap.size ≤ D) : w'.ownsRow B e 1 v n xs := by
  obtain ⟨h1, h2⟩ := h
  refine ⟨h1, ?_⟩
  rcases h2 with h2 | ⟨g, cap, cur, hv, hg, hh, r⟩
  · exact Or.inl h2
  · exact Or.inr ⟨g, cap, cur, hv, hg, (hb.block g (Nat.lt_of_lt_of_le (Array.getElem?_eq_some_iff.1 hh).1 hD)).trans hh, r⟩
theorem OR.below {w w' : World} {B D : Nat} {v : Value} {xss : List (List Int)} (h : OR w B v xss) (hb : Below D w w') (hD : w.heap.size ≤ D) : OR w' B v xss := by
  obtain ⟨ts, h1, h2, h3⟩ := h
  exact ⟨ts, ownsRow_below h1 hb hD, h2, fun i t ht => (h3 i t ht).below hb hD⟩
theorem OR.form {w : World} {B : Nat} {v : Value} {xss : List (List Int)} (h : OR w B v xss) : ∃ A c, v = .slice A xss.length c ∧ RL w A xss := by
  obtain ⟨ts, ⟨h1, h1'⟩, h2, h3⟩ := h
  rcases h1' with ⟨rfl, hn⟩ | ⟨g, cap, cur, rfl, hg, hh, hn, hm, hsz, hcur⟩
  · exact ⟨none, 0, by rw [← h2, hn], fun k hk => absurd hk (by omega)⟩
  · refine ⟨_, cap, by rw [h2], fun k hk => ?_⟩
    have hkt : k < ts.length := by omega
    have ho := h3 k ts[k] (List.getElem?_eq_getElem hkt)
    obtain ⟨A', c', e, hc1, hc2, hR⟩ := ho.form
    have hnil : A' = none → c' = 0 := fun hA => by
      subst hA
      rcases ho.2 with ⟨hv, _⟩ | ⟨g, cap, cur, hv, _⟩
      · rw [e] at hv; injection hv
      · rw [e] at hv; injection hv with hv; cases hv
    refine ⟨g, 0, A', c', rfl, (Array.getElem?_eq_some_iff.1 hh).1, ?_, hR, hnil⟩
    have e2 : cur.toList[k]? = some (sv ts[k]) := by
      have : (cur.toList.take (ts.length * 1))[k]? = some (sv ts[k]) := by rw [hcur, List.getElem?_map, List.getElem?_eq_getElem hkt]; rfl
      rwa [List.getElem?_take, if_pos (by omega)] at this
    rw [← e]
    simp [World.cell?, hh]
    simpa using e2

theorem ints_info : (Tryd.prog.info? 22).map (fun i => (i.zero, i.size, i.bytes)) = some (some (.slice none 0 0), 1, 24) := by kernel_rfl
theorem gl_snoc {xss : List (List Int)} {xs : List Int} {i : Nat} (h : i < xss.length) : gl (xss ++ [xs]) i = gl xss i := by simp [gl, List.getElem?_append_left h]
theorem gl_last (xss : List (List Int)) (xs : List Int) : gl (xss ++ [xs]) xss.length = xs := by simp [gl]

/-- 'runs = append(runs, run)'. -/
theorem append_run {ops : Array Oper} {rest : List Oper} {o : Oper} {a : Act} {Q : Exit → Act → World → Prop} (hgd : o.guard = none) (s x : Operand)
    (ho : o.op = .call { callee := .builtin .append, args := #[s, x], argTypes := #[66, 66] })
    (W : World) (B : Nat) (v : Value) (xss : List (List Int)) (A : Option Addr) (n c : Nat) (xs : List Int) (hs : a.eval s = v) (hown : OR W B v xss) (hrun : OI W B (.slice A n c) xs) (hx : a.eval x = .slice (some ⟨W.heap.size, 0, none⟩) 1 1)
    (hlen : xss.length ≤ 1000000000000) (hbase : B ≤ W.heap.size)
    (h : ∀ v' w', OR w' B v' (xss ++ [xs]) → Below B W w' → wpList Tryd.prog ops Q rest (a.put o.dst v') w') :
    wpList Tryd.prog ops Q (o :: rest) a (W.alloc (.cells #[.slice A n c] 22)) := by
  obtain ⟨i0, hi, hz0, hz1, hz2⟩ := info_parts ints_info
  obtain ⟨ts, h1, h2, h3⟩ := hown
  refine wpList_append_own _ hgd s x 66 ho B 22 i0 (.slice none 0 0) 1 24 Tryd.underlying66 hi hz0 hz1 hz2 rfl (by decide) v ts.length (ts.map sv) hs (World.ownsRow.alloc h1 _) ⟨W.heap.size, 0, none⟩ 1 1 [.slice A n c] hx rfl (cell_one_new _ _ _) (by simp [Value.oneCell']) (by unfold maxLen; omega) (by omega) (by simp; omega) ?_
  intro v' w' hown' hg _
  have hsz : W.heap.size ≤ w'.heap.size := Nat.le_trans (by simp) hg.size
  have hg' : W.grownBy w' v.ownBlock := ⟨hg.os, hg.tape, hg.output, hsz, fun k hk hne => (hg.block k (by simp; omega) hne).trans (Below.heap_alloc _ _ _ hk)⟩
  have hblk : ∀ k, v.ownBlock = some k → B ≤ k ∧ ∃ cur, W.heap[k]? = some (.cells cur 22 (0, 0)) := fun k hk => by
    rcases h1.2 with ⟨rfl, _⟩ | ⟨g, cap, cur, rfl, hg, hh, r⟩
    · cases hk
    · simp only [Value.ownBlock, Option.some.injEq] at hk
      subst hk
      exact ⟨hg, cur, hh⟩
  have hkeep : ∀ (u : Value) (ys : List Int), OI W B u ys → OI w' B u ys := fun u ys hu => hu.grown hg' (fun g hgu e => by
    obtain ⟨_, cur, hc⟩ := hblk g e
    rcases hu.2 with ⟨rfl, _⟩ | ⟨g', cap, cur', rfl, _, hh, _⟩
    · cases hgu
    · simp only [Value.ownBlock, Option.some.injEq] at hgu
      subst hgu
      rw [hc] at hh
      injection hh with hh
      injection hh with _ hh
      exact absurd hh (by decide))
  refine h v' w' ⟨ts ++ [(A, n, c)], by simpa [sv] using hown', by simp [h2], fun i t ht => ?_⟩ ⟨hg.os, hg.tape, hg.output, hsz, fun k hk => hg'.block k (by omega) (fun e => by have := (hblk k e.symm).1; omega)⟩
  by_cases hi : i < ts.length
  · rw [List.getElem?_append_left hi] at ht
    rw [gl_snoc (by omega)]
    exact hkeep _ _ (h3 i t ht)
  · have hie : i = ts.length := by
      have := (List.getElem?_eq_some_iff.1 ht).1
      simp at this; omega
    subst hie
    rw [List.getElem?_append_right (Nat.le_refl _), Nat.sub_self] at ht
    simp at ht
    subst ht
    rw [h2, gl_last]
    exact hkeep _ _ hrun

theorem gl_reverse {xss : List (List Int)} {i : Nat} (h : i < xss.length) : gl xss.reverse i = gl xss (xss.length - 1 - i) := by
  rw [gl_eq (by simpa using h), gl_eq (by omega), List.getElem_reverse]
/-- slices.Reverse of the runs. -/
theorem reverseR_any (v : Value) (B : Nat) (xss : List (List Int)) (w : World) (hown : OR w B v xss) (hB : B ≤ w.heap.size) (hx : xss.length ≤ 9223372036854775807) :
    Calls Tryd.prog 57 #[v] w fun e w' => e = .returned (.tuple #[]) ∧ Below B w w' ∧ OR w' B v xss.reverse := by
  obtain ⟨ts, h1, h2, h3⟩ := hown
  rcases h1.2 with ⟨rfl, hn⟩ | ⟨g, cap, cur, rfl, hg, hh, hn, hm, hsz, hcur⟩
  · refine (Tryd.slices_Reverse_empty_f57 (α := Sl) none 0 w).mono ?_
    rintro e w' ⟨rfl, rfl⟩
    have hx0 : xss = [] := List.length_eq_zero_iff.1 (by omega)
    subst hx0
    exact ⟨rfl, Below.refl _ _, OR.nil _ _⟩
  · have hblk : Blk w g 22 cur.toList := by simpa [Blk] using hh
    have hcl : cur.toList = ts.map sv ++ cur.toList.drop ts.length := by
      have := List.take_append_drop ts.length cur.toList
      rw [Nat.mul_one] at hcur
      rw [hcur] at this
      exact this.symm
    have hH : Holds sv w g 0 ts.toArray := fun j hj => by
      have hj' : j < ts.length := by simpa using hj
      refine ⟨?_, by rw [Nat.zero_add]; exact hblk.frozen j⟩
      rw [Nat.zero_add, hblk.cell, hcl, List.getElem?_append_left (by simpa using hj'), List.getElem?_map, List.getElem?_eq_getElem hj']
      simp [hj']
    refine (Tryd.slices_Reverse_f57 sv sv_one g 0 cap ts w hH (by omega)).mono ?_
    rintro e w' ⟨rfl, q, rfl⟩
    rw [putRow_eq_setCells sv w g 0 ts.toArray ts.reverse q hH (by simp)]
    have hgr : w.grownBy ((w.drewN q).setCells g 0 (ts.reverse.map sv)) (some g) := grownBy_setCells _ _ _ (grownBy_drewN (grownBy_refl _ _) _)
    have hlen : 0 + (ts.reverse.map sv).length ≤ cur.toList.length := by simp; omega
    have hb2 : Blk ((w.drewN q).setCells g 0 (ts.reverse.map sv)) g 22 (splice cur.toList 0 (ts.reverse.map sv)) := Blk.setCells _ _ _ _ hblk hlen
    have hsp : splice cur.toList 0 (ts.reverse.map sv) = ts.reverse.map sv ++ cur.toList.drop ts.length := by simp [splice]
    rw [hsp] at hb2
    refine ⟨rfl, below_grownBy hgr hg hB, ts.reverse, ⟨by simp, Or.inr ⟨g, cap, (ts.reverse.map sv ++ cur.toList.drop ts.length).toArray, by simp, hg, hb2, by simpa using hn, hm, by simp; omega, by simp⟩⟩, by simp [h2], fun i t ht => ?_⟩
    have hi : i < ts.length := by have := (List.getElem?_eq_some_iff.1 ht).1; simpa using this
    rw [gl_reverse (by omega)]
    rw [List.getElem?_reverse hi] at ht
    have ho := h3 _ t ht
    rw [h2] at ho
    exact ho.grown hgr (fun g' hg' e => by
      injection e with e
      subst e
      rcases ho.2 with ⟨hv, _⟩ | ⟨g'', cap', cur', hv, _, hh', _⟩
      · rw [hv] at hg'; cases hg'
      · rw [hv] at hg'
        simp only [Value.ownBlock, Option.some.injEq] at hg'
        subst hg'
        rw [hh] at hh'
        injection hh' with hh'
        injection hh' with _ hh'
        exact absurd hh' (by decide))
end Go.Proofs.YtlcjfphhogcenaaDoor
