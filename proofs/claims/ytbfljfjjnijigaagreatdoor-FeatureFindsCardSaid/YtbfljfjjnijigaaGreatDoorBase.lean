/-
  The words in which the walks speak: a slice that reads as a list of integers, what a call owns, the table of the scripts.
-/
import Derived.Test.YtbfljfjjnijigaaGreatDoorProg
import Derived.Test.YtbfljfjjnijigaaGreatDoorPlain
import Derived.WalkKit
import Derived.WalkSpells
import Derived.WalkLawsBesides
import Derived.Handy
import Derived.Lib.Hide
import Derived.Deep.QuietTactic
import Derived.BigQuiet
set_option linter.unusedVariables false
set_option linter.unusedSimpArgs false
namespace Go.Proofs.YtbfljfjjnijigaaGreatDoor
open Go.RowKit
theorem ret_int {k : IntKind} {a b : Int} (h : a = b) : Ending.returned (.int k a) = .returned (.int k b) := by rw [h]
theorem ret_bool {a b : Bool} (h : a = b) : Ending.returned (.bool a) = .returned (.bool b) := by rw [h]

/-- The slice at A reads as the integers xs. -/
def RI (w : World) (A : Option Addr) (xs : List Int) : Prop :=
  ∀ k, k < xs.length → ∃ b off, A = some ⟨b, off, none⟩ ∧ b < w.heap.size ∧ ∀ j, j < xs.length → w.cell? ⟨b, off + j, none⟩ = some (.int .i64 (gi xs j))

theorem RI.below {w w' : World} {A : Option Addr} {xs : List Int} (h : RI w A xs) (hb : Below w.heap.size w w') : RI w' A xs := fun k hk => by
  obtain ⟨b, off, e, hl, hc⟩ := h k hk
  exact ⟨b, off, e, Nat.lt_of_lt_of_le hl hb.size, fun j hj => (hb.cell (p := ⟨b, off + j, none⟩) hl).trans (hc j hj)⟩
theorem RI.nil (w : World) (A : Option Addr) : RI w A [] := fun k hk => absurd hk (by simp)

/-- The slice value v is the call's own (from block B on) and holds the integers xs. -/
def OI (w : World) (B : Nat) (v : Value) (xs : List Int) : Prop := w.ownsRow B 3 1 v xs.length (xs.map (Value.int .i64))
theorem OI.nil (w : World) (B : Nat) : OI w B (.slice none 0 0) [] := ⟨by simp, Or.inl ⟨rfl, rfl⟩⟩
theorem OI.form {w : World} {B : Nat} {v : Value} {xs : List Int} (h : OI w B v xs) : ∃ A c, v = .slice A xs.length c ∧ xs.length ≤ c ∧ c ≤ maxLen ∧ RI w A xs := by
  obtain ⟨h1, h2⟩ := h
  rcases h2 with ⟨rfl, hn⟩ | ⟨g, cap, cur, rfl, hg, hh, hn, hm, hsz, hcur⟩
  · exact ⟨none, 0, by rw [hn], by omega, by unfold maxLen; omega, fun k hk => absurd hk (by omega)⟩
  · refine ⟨_, cap, rfl, hn, hm, fun k hk => ⟨g, 0, rfl, (Array.getElem?_eq_some_iff.1 hh).1, fun j hj => ?_⟩⟩
    have e : cur.toList[j]? = some (.int .i64 (gi xs j)) := by
      have : (cur.toList.take (xs.length * 1))[j]? = some (.int .i64 (gi xs j)) := by rw [hcur, List.getElem?_map, List.getElem?_eq_getElem hj, gi_eq hj]; rfl
      rwa [List.getElem?_take, if_pos (by omega)] at this
    simp [World.cell?, hh]
    simpa using e
theorem OI.below {w w' : World} {B D : Nat} {v : Value} {xs : List Int} (h : OI w B v xs) (hb : Below D w w') (hD : w.heap.size ≤ D) : OI w' B v xs := by
  obtain ⟨h1, h2⟩ := h
  refine ⟨h1, ?_⟩
  rcases h2 with h2 | ⟨g, cap, cur, hv, hg, hh, r⟩
  · exact Or.inl h2
  · exact Or.inr ⟨g, cap, cur, hv, hg, (hb.block g (Nat.lt_of_lt_of_le (Array.getElem?_eq_some_iff.1 hh).1 hD)).trans hh, r⟩

/-- The table of the scripts, as the program's text lays it. -/
def Gl.tab : Array Value := #[.int .i32 32, .int .i32 32, .int .i64 0, .int .i32 39, .int .i32 41, .int .i64 0, .int .i32 45, .int .i32 46, .int .i64 0, .int .i32 48, .int .i32 57, .int .i64 0,
  .int .i32 65, .int .i32 90, .int .i64 1, .int .i32 97, .int .i32 122, .int .i64 1, .int .i32 192, .int .i32 214, .int .i64 1, .int .i32 216, .int .i32 246, .int .i64 1, .int .i32 248, .int .i32 591, .int .i64 1,
  .int .i32 880, .int .i32 1023, .int .i64 2, .int .i32 1024, .int .i32 1279, .int .i64 3, .int .i32 1488, .int .i32 1514, .int .i64 4, .int .i32 19968, .int .i32 40959, .int .i64 5]
def Gl.Tab (w : World) : Prop := ∃ t fr, w.heap[0]? = some (.cells Gl.tab t fr)
theorem Gl.Tab.lt {w : World} (h : Gl.Tab w) : 0 < w.heap.size := by
  obtain ⟨t, fr, h⟩ := h
  exact (Array.getElem?_eq_some_iff.1 h).1
theorem Gl.Tab.below {w w' : World} {B : Nat} (h : Gl.Tab w) (hb : Below B w w') (hB : w.heap.size ≤ B) : Gl.Tab w' := by
  have hl := h.lt
  obtain ⟨t, fr, h⟩ := h
  exact ⟨t, fr, (hb.block _ (by omega)).trans h⟩
end Go.Proofs.YtbfljfjjnijigaaGreatDoor
