/-
  Laws for the walks: append of one integer to a slice of the call's own; a range over a string.
-/
import Derived.Test.YtbfljfjjnijigaaGreatDoorBase
import Derived.Lib.OthersKept
import Derived.WalkSmall
set_option linter.unusedVariables false
set_option linter.unusedSimpArgs false
namespace Go.Proofs.YtbfljfjjnijigaaGreatDoor
open Go.RowKit
theorem int_info : (Tryz.prog.info? 3).map (fun i => (i.zero, i.size, i.bytes)) = some (some (.int .i64 0), 1, 8) := by kernel_rfl

theorem OI.mono {w : World} {B B' : Nat} {v : Value} {xs : List Int} (h : OI w B v xs) (hB : B' ≤ B) : OI w B' v xs := by
  obtain ⟨h1, h2⟩ := h
  refine ⟨h1, ?_⟩
  rcases h2 with h2 | ⟨g, cap, cur, hv, hg, r⟩
  · exact Or.inl h2
  · exact Or.inr ⟨g, cap, cur, hv, by omega, r⟩
theorem OI.own {w : World} {B : Nat} {v : Value} {xs : List Int} (h : OI w B v xs) : ∀ k, v.ownBlock = some k → B ≤ k ∧ k < w.heap.size := by
  obtain ⟨h1, h2⟩ := h
  intro k hk
  rcases h2 with ⟨rfl, _⟩ | ⟨g, cap, cur, rfl, hg, hh, r⟩
  · cases hk
  · simp only [Value.ownBlock, Option.some.injEq] at hk
    subst hk
    exact ⟨hg, (Array.getElem?_eq_some_iff.1 hh).1⟩
theorem OI.iterAt {w : World} {B : Nat} {v : Value} {xs : List Int} (h : OI w B v xs) {k : Nat} (hk : k < B) (s : ByteArray) (p : Nat) : OI (w.iterAt k s p) B v xs := ownsRow_iterAt h hk s p
theorem Gl.Tab.iterAt {w : World} (h : Gl.Tab w) {k : Nat} (hk : 0 ≠ k) (s : ByteArray) (p : Nat) : Gl.Tab (w.iterAt k s p) := by
  obtain ⟨t, fr, h⟩ := h
  exact ⟨t, fr, by rw [Lib.iterAt_other _ _ _ _ _ hk]; exact h⟩

/-- 'xs = append(xs, y)', xs the call's own: the new element lies in a block of its own first. -/
theorem append_int {ops : Array Oper} {rest : List Oper} {o : Oper} {a : Act} {Q : Exit → Act → World → Prop} (hgd : o.guard = none) (s x : Operand)
    (ho : o.op = .call { callee := .builtin .append, args := #[s, x], argTypes := #[24, 24] })
    (W : World) (base : Nat) (v : Value) (xs : List Int) (y : Int) (hs : a.eval s = v) (hown : OI W base v xs) (hx : a.eval x = .slice (some ⟨W.heap.size, 0, none⟩) 1 1)
    (hlen : xs.length ≤ 10000000000000) (hbase : base ≤ W.heap.size)
    (h : ∀ v' w', OI w' base v' (xs ++ [y]) → Below base W w' → W.grownBy w' v.ownBlock → wpList Tryz.prog ops Q rest (a.put o.dst v') w') :
    wpList Tryz.prog ops Q (o :: rest) a (W.alloc (.cells #[.int .i64 y] 3)) := by
  obtain ⟨i0, hi, hz0, hz1, hz2⟩ := info_parts int_info
  refine wpList_append_own _ hgd s x 24 ho base 3 i0 (.int .i64 0) 1 8 Tryz.underlying24 hi hz0 hz1 hz2 rfl (by decide) v xs.length (xs.map (Value.int .i64)) hs (World.ownsRow.alloc hown _) ⟨W.heap.size, 0, none⟩ 1 1 [.int .i64 y] hx rfl (cell_one_new _ _ _) (by simp [Value.oneCell']) (by unfold maxLen; omega) (by omega) (by simp; omega) ?_
  intro v' w' hown' hg _
  have hsz : W.heap.size ≤ w'.heap.size := Nat.le_trans (by simp) hg.size
  have hg' : W.grownBy w' v.ownBlock := ⟨hg.os, hg.tape, hg.output, hsz, fun k hk hne => (hg.block k (by simp; omega) hne).trans (Below.heap_alloc _ _ _ hk)⟩
  refine h v' w' (by simpa [OI] using hown') ⟨hg.os, hg.tape, hg.output, hsz, fun k hk => hg'.block k (by omega) (fun e => ?_)⟩ hg'
  have := hown.own k e.symm
  omega
end Go.Proofs.YtbfljfjjnijigaaGreatDoor
