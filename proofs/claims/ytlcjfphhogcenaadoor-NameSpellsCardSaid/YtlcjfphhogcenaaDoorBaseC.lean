/-
  Words for a block that is known whole and written in place.
-/
import Derived.Test.YtlcjfphhogcenaaDoorBaseB
import Derived.Test.YtlcjfphhogcenaaDoorShelf
set_option linter.unusedVariables false
set_option linter.unusedSimpArgs false
namespace Go.Proofs.YtlcjfphhogcenaaDoor
open Go.RowKit

/-- Block b is just the cells l (of the element type t), none of them frozen. -/
def Blk (w : World) (b : Nat) (t : TypeId) (l : List Value) : Prop := w.heap[b]? = some (.cells l.toArray t (0, 0))
theorem Blk.lt {w : World} {b : Nat} {t : TypeId} {l : List Value} (h : Blk w b t l) : b < w.heap.size := (Array.getElem?_eq_some_iff.1 h).1
theorem Blk.cell {w : World} {b : Nat} {t : TypeId} {l : List Value} (h : Blk w b t l) (i : Nat) : w.cell? ⟨b, i, none⟩ = l[i]? := by
  unfold Blk at h
  simp [World.cell?, h]
theorem Blk.frozen {w : World} {b : Nat} {t : TypeId} {l : List Value} (h : Blk w b t l) (i : Nat) : w.frozen? ⟨b, i, none⟩ = false := by
  unfold Blk at h
  simp [World.frozen?, h]
theorem Blk.below {w w' : World} {b D : Nat} {t : TypeId} {l : List Value} (h : Blk w b t l) (hb : Below D w w') (hD : b < D) : Blk w' b t l := (hb.block b hD).trans h
theorem Blk.grown {w w' : World} {b : Nat} {t : TypeId} {l : List Value} {r : Option Nat} (h : Blk w b t l) (hb : w.grownBy w' r) (hne : some b ≠ r) : Blk w' b t l := (hb.block b h.lt hne).trans h
theorem Blk.set {w : World} {b : Nat} {t : TypeId} {l : List Value} (h : Blk w b t l) (i : Nat) (u : Value) : Blk (w.setCell ⟨b, i, none⟩ u) b t (l.set i u) := by
  unfold Blk at h ⊢
  simp [World.setCell, Array.getElem?_modify, h]

/-- vs written over l from o on. -/
def splice (l : List Value) (o : Nat) (vs : List Value) : List Value := l.take o ++ vs ++ l.drop (o + vs.length)
theorem splice_nil (l : List Value) (o : Nat) : splice l o [] = l := by simp [splice]
theorem splice_cons {l : List Value} {o : Nat} (v : Value) (vs : List Value) (h : o + (v :: vs).length ≤ l.length) : splice l o (v :: vs) = splice (l.set o v) (o + 1) vs := by
  simp at h
  unfold splice
  have ho : o < l.length := by omega
  rw [List.take_succ_eq_append_getElem (by simpa using ho), List.getElem_set_self, List.take_set_of_le (Nat.le_refl _), List.drop_set_of_lt (by omega), List.append_assoc, List.append_assoc, List.append_assoc]
  simp only [List.length_cons, List.cons_append, List.nil_append]
  rw [show o + (vs.length + 1) = o + 1 + vs.length by omega]
theorem Blk.setCells {b : Nat} {t : TypeId} : ∀ (vs : List Value) (o : Nat) (w : World) (l : List Value), Blk w b t l → o + vs.length ≤ l.length → Blk (w.setCells b o vs) b t (splice l o vs)
  | [], o, w, l, h, _ => by rw [splice_nil]; exact h
  | v :: vs, o, w, l, h, hl => by
    rw [splice_cons v vs hl]
    exact Blk.setCells vs (o + 1) _ _ (h.set o v) (by simp at hl ⊢; omega)
theorem grownBy_refl (w : World) (r : Option Nat) : w.grownBy w r := ⟨rfl, rfl, rfl, Nat.le_refl _, fun _ _ _ => rfl⟩
theorem grownBy_trans {a b c : World} {r : Option Nat} (h : a.grownBy b r) (k : b.grownBy c r) : a.grownBy c r :=
  ⟨k.os.trans h.os, k.tape.trans h.tape, k.output.trans h.output, Nat.le_trans h.size k.size, fun i hi hne => (k.block i (Nat.lt_of_lt_of_le hi h.size) hne).trans (h.block i hi hne)⟩
theorem grownBy_setCell {a w : World} {b : Nat} (h : a.grownBy w (some b)) (i : Nat) (u : Value) : a.grownBy (w.setCell ⟨b, i, none⟩ u) (some b) :=
  ⟨h.os, h.tape, h.output, by simpa [World.setCell] using h.size, fun k hk hne => (Below.heap_setCell w ⟨b, i, none⟩ u k (fun e => hne (by rw [e]))).trans (h.block k hk hne)⟩
theorem grownBy_setCells {a : World} {b : Nat} : ∀ (vs : List Value) (o : Nat) (w : World), a.grownBy w (some b) → a.grownBy (w.setCells b o vs) (some b)
  | [], _, _, h => h
  | v :: vs, o, w, h => grownBy_setCells vs (o + 1) _ (grownBy_setCell h o v)
theorem grownBy_drewN {a w : World} {r : Option Nat} (h : a.grownBy w r) (n : Nat) : a.grownBy (w.drewN n) r := ⟨h.os, h.tape, h.output, h.size, h.block⟩
theorem grownBy_below {a w : World} (h : Below a.heap.size a w) (r : Option Nat) : a.grownBy w r := ⟨h.os, h.tape, h.output, h.size, fun i hi _ => h.block i hi⟩
/-- What keeps all but block b, b new: nothing old has turned. -/
theorem below_grownBy {a w : World} {B b : Nat} (h : a.grownBy w (some b)) (hB : B ≤ b) (hs : B ≤ a.heap.size) : Below B a w :=
  ⟨h.os, h.tape, h.output, h.size, fun k hk => h.block k (by omega) (fun e => by injection e; omega)⟩

/-- slices.Reverse of a stretch of a block of integers. -/
theorem reverseI_any (b off n c : Nat) (l : List Value) (zs : List Int) (w : World) (hzn : zs.length = n) (hB : Blk w b 3 l) (hl : off + zs.length ≤ l.length) (hz : (l.drop off).take zs.length = zs.map (Value.int .i64)) (hbig : zs.length ≤ 9223372036854775807) :
    Calls Tryd.prog 77 #[.slice (some ⟨b, off, none⟩) n c] w fun e w' => e = .returned (.tuple #[]) ∧ w.grownBy w' (some b) ∧ Blk w' b 3 (splice l off (zs.reverse.map (Value.int .i64))) := by
  subst hzn
  refine (Tryd.slices_Reverse_int_cells b off zs.length c zs w (Nat.le_refl _) hbig (fun j hj => ?_) (fun j _ => hB.frozen _)).mono ?_
  · rw [hB.cell]
    have e := congrArg (fun m : List Value => m[j]?) hz
    simp only [List.getElem?_take, List.getElem?_drop, if_pos hj, List.getElem?_map, List.getElem?_eq_getElem hj, Option.map_some] at e
    rw [e]
    simp [List.getD, hj]
  · rintro e w' ⟨rfl, q, rfl⟩
    refine ⟨rfl, grownBy_setCells _ _ _ (grownBy_drewN (grownBy_refl _ _) _), ?_⟩
    have : zs.take zs.length = zs := List.take_length
    rw [this]
    exact Blk.setCells _ _ _ _ hB (by simpa using hl)
end Go.Proofs.YtlcjfphhogcenaaDoor
