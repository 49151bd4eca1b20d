/-
  Lists of boxes: those of the call's own, and those that are read.
-/
import Derived.Test.YtmmkgdindbdckaaGreatDoorSvA
import Derived.Deep.AppendLies
set_option linter.unusedVariables false
set_option linter.unusedSimpArgs false
namespace Go.Proofs.YtmmkgdindbdckaaGreatDoor
open Go.RowKit

def boxV (b : Int × Int × Int × Int) : Value := .agg #[.int .i64 b.1, .int .i64 b.2.1, .int .i64 b.2.2.1, .int .i64 b.2.2.2]
def ptV (x y : Int) : Value := .agg #[.int .i64 x, .int .i64 y]
def boxC (b : Int × Int × Int × Int) : List Value := [.int .i64 b.1, .int .i64 b.2.1, .int .i64 b.2.2.1, .int .i64 b.2.2.2]
/-- The slice value v is the call's own (from block B on) and holds the boxes bs. -/
def OBx (w : World) (B : Nat) (v : Value) (bs : List (Int × Int × Int × Int)) : Prop := w.ownsRow B 30 4 v bs.length (bs.flatMap boxC)
theorem box_info : (Tryz.prog.info? 30).map (fun i => (i.zero, i.size, i.bytes)) = some (some (.agg #[.int .i64 0, .int .i64 0, .int .i64 0, .int .i64 0]), 4, 32) := by kernel_rfl
theorem OBx.nil (w : World) (B : Nat) : OBx w B (.slice none 0 0) [] := ⟨by simp, Or.inl ⟨rfl, rfl⟩⟩
theorem OBx.own {w : World} {B : Nat} {v : Value} {bs : List (Int × Int × Int × Int)} (h : OBx w B v bs) : ∀ k, v.ownBlock = some k → B ≤ k := by
  obtain ⟨u1, u2⟩ := h
  intro k hk
  rcases u2 with ⟨rfl, _⟩ | ⟨g', cap', cur, rfl, e2, _⟩
  · cases hk
  · simp only [Value.ownBlock, Option.some.injEq] at hk
    omega
theorem OBx.below {w w' : World} {B D : Nat} {v : Value} {xs : List (Int × Int × Int × Int)} (h : OBx w B v xs) (hb : Below D w w') (hD : w.heap.size ≤ D) : OBx w' B v xs := by
  obtain ⟨h1, h2⟩ := h
  refine ⟨h1, ?_⟩
  rcases h2 with h2 | ⟨g, cap, cur, hv, hg, hh, r⟩
  · exact Or.inl h2
  · exact Or.inr ⟨g, cap, cur, hv, hg, (hb.block g (Nat.lt_of_lt_of_le (Array.getElem?_eq_some_iff.1 hh).1 hD)).trans hh, r⟩
theorem OBx.mono {w : World} {B B' : Nat} {v : Value} {xs : List (Int × Int × Int × Int)} (h : OBx w B v xs) (hB : B' ≤ B) : OBx w B' v xs := by
  obtain ⟨h1, h2⟩ := h
  refine ⟨h1, ?_⟩
  rcases h2 with h2 | ⟨g, cap, cur, hv, hg, r⟩
  · exact Or.inl h2
  · exact Or.inr ⟨g, cap, cur, hv, by omega, r⟩
theorem grown_below_own {a w : World} {B : Nat} {v : Value} (h : a.grownBy w v.ownBlock) (hv : ∀ k, v.ownBlock = some k → B ≤ k) (hs : B ≤ a.heap.size) : Below B a w :=
  ⟨h.os, h.tape, h.output, h.size, fun k hk => h.block k (by omega) (fun e => by have := hv k e.symm; omega)⟩
def bxAt (bs : List (Int × Int × Int × Int)) (i : Nat) : Int × Int × Int × Int := bs.getD i (0, 0, 0, 0)
theorem bxAt_eq {bs : List (Int × Int × Int × Int)} {i : Nat} (h : i < bs.length) : bxAt bs i = bs[i] := by simp [bxAt, h]
/-- The slice at A reads as the boxes bs. -/
def RBx (w : World) (A : Option Addr) (bs : List (Int × Int × Int × Int)) : Prop :=
  ∀ k, k < bs.length → ∃ b off, A = some ⟨b, off, none⟩ ∧ b < w.heap.size ∧ ∀ j, j < bs.length →
    w.cell? ⟨b, off + j * 4, none⟩ = some (.int .i64 (bxAt bs j).1) ∧ w.cell? ⟨b, off + j * 4 + 1, none⟩ = some (.int .i64 (bxAt bs j).2.1) ∧ w.cell? ⟨b, off + j * 4 + 2, none⟩ = some (.int .i64 (bxAt bs j).2.2.1) ∧ w.cell? ⟨b, off + j * 4 + 3, none⟩ = some (.int .i64 (bxAt bs j).2.2.2)
theorem RBx.below {w w' : World} {A : Option Addr} {bs : List (Int × Int × Int × Int)} (h : RBx w A bs) (hb : Below w.heap.size w w') : RBx w' A bs := fun k hk => by
  obtain ⟨b, off, e, hl, hc⟩ := h k hk
  refine ⟨b, off, e, Nat.lt_of_lt_of_le hl hb.size, fun j hj => ?_⟩
  obtain ⟨c1, c2, c3, c4⟩ := hc j hj
  exact ⟨(hb.cell (p := ⟨b, off + j * 4, none⟩) hl).trans c1, (hb.cell (p := ⟨b, off + j * 4 + 1, none⟩) hl).trans c2, (hb.cell (p := ⟨b, off + j * 4 + 2, none⟩) hl).trans c3, (hb.cell (p := ⟨b, off + j * 4 + 3, none⟩) hl).trans c4⟩
theorem flat_at (bs : List (Int × Int × Int × Int)) : ∀ (j i : Nat), j < bs.length → i < 4 → (bs.flatMap boxC)[j * 4 + i]? = (boxC (bxAt bs j))[i]? := by
  induction bs with
  | nil => intro j i hj; simp at hj
  | cons b r ih =>
    intro j i hj hi
    rw [List.flatMap_cons]
    cases j with
    | zero => rw [List.getElem?_append_left (by simp [boxC]; omega)]; simp [bxAt]
    | succ j =>
      rw [List.getElem?_append_right (by simp [boxC]; omega)]
      have := ih j i (by simpa using hj) hi
      simp only [boxC, List.length_cons, List.length_nil] at *
      rw [show (j + 1) * 4 + i - (0 + 1 + 1 + 1 + 1) = j * 4 + i by omega, this]
      simp [bxAt]
theorem OBx.form {w : World} {B : Nat} {v : Value} {bs : List (Int × Int × Int × Int)} (h : OBx w B v bs) : ∃ A c, v = .slice A bs.length c ∧ RBx w A bs := by
  obtain ⟨h1, h2⟩ := h
  rcases h2 with ⟨rfl, hn⟩ | ⟨g, cap, cur, rfl, hg, hh, hn, hm, hsz, hcur⟩
  · exact ⟨none, 0, by rw [hn], fun k hk => absurd hk (by omega)⟩
  · refine ⟨_, cap, rfl, fun k hk => ⟨g, 0, rfl, (Array.getElem?_eq_some_iff.1 hh).1, fun j hj => ?_⟩⟩
    have e : ∀ i, i < 4 → w.cell? ⟨g, 0 + j * 4 + i, none⟩ = (boxC (bxAt bs j))[i]? := fun i hi => by
      have h3 : (cur.toList.take (bs.length * 4))[j * 4 + i]? = (boxC (bxAt bs j))[i]? := by rw [hcur]; exact flat_at bs j i hj hi
      rw [List.getElem?_take, if_pos (by omega)] at h3
      simp [World.cell?, hh]
      simpa using h3
    have e0 := e 0 (by omega)
    have e1 := e 1 (by omega)
    have e2 := e 2 (by omega)
    have e3 := e 3 (by omega)
    refine ⟨?_, ?_, ?_, ?_⟩
    · simpa [boxC] using e0
    · simpa [boxC] using e1
    · simpa [boxC] using e2
    · simpa [boxC] using e3
/-- 'xs = append(xs, y)', xs the call's own: the new element lies in a block of its own first. -/
theorem append_box {ops : Array Oper} {rest : List Oper} {o : Oper} {a : Act} {Q : Exit → Act → World → Prop} (hgd : o.guard = none) (s x : Operand)
    (ho : o.op = .call { callee := .builtin .append, args := #[s, x], argTypes := #[24, 24] })
    (W : World) (base : Nat) (v : Value) (xs : List (Int × Int × Int × Int)) (y0 y1 y2 y3 : Int) (hs : a.eval s = v) (hown : OBx W base v xs) (H : Nat) (hH : W.heap.size = H) (hx : a.eval x = .slice (some ⟨H, 0, none⟩) 1 1)
    (hlen : xs.length ≤ 1000000000000) (hbase : base ≤ W.heap.size)
    (h : ∀ v' w', OBx w' base v' (xs ++ [(y0, y1, y2, y3)]) → Below base W w' → W.grownBy w' v.ownBlock → wpList Tryz.prog ops Q rest (a.put o.dst v') w') :
    wpList Tryz.prog ops Q (o :: rest) a (W.alloc (.cells #[.int .i64 y0, .int .i64 y1, .int .i64 y2, .int .i64 y3] 30)) := by
  subst hH
  obtain ⟨i0, hi, hz0, hz1, hz2⟩ := info_parts box_info
  refine wpList_append_own _ hgd s x 24 ho base 30 i0 (.agg #[.int .i64 0, .int .i64 0, .int .i64 0, .int .i64 0]) 4 32 Tryz.underlying24 hi hz0 hz1 hz2 rfl (by decide) v xs.length (xs.flatMap boxC) hs (World.ownsRow.alloc hown _) ⟨W.heap.size, 0, none⟩ 1 1 [.int .i64 y0, .int .i64 y1, .int .i64 y2, .int .i64 y3] hx rfl (World.news_of_block (heap_alloc_new W _)) (by simp [Value.oneCell']) (by unfold maxLen; omega) (by omega) (by simp; omega) ?_
  intro v' w' hown' hg _
  have hsz : W.heap.size ≤ w'.heap.size := Nat.le_trans (by simp) hg.size
  have hg' : W.grownBy w' v.ownBlock := ⟨hg.os, hg.tape, hg.output, hsz, fun k hk hne => (hg.block k (by simp; omega) hne).trans (Below.heap_alloc _ _ _ hk)⟩
  refine h v' w' (by simpa [OBx, boxC] using hown') ⟨hg.os, hg.tape, hg.output, hsz, fun k hk => hg'.block k (by omega) (fun e => ?_)⟩ hg'
  have := hown.own k e.symm
  omega
end Go.Proofs.YtmmkgdindbdckaaGreatDoor
