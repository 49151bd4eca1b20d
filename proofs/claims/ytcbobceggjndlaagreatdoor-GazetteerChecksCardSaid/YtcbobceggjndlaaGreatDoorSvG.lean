/-
  Regions of a plan without arcs: paths, degrees, find, the cycles of the unbounded region, faces.
-/
import Derived.Test.YtcbobceggjndlaaGreatDoorSvF
set_option linter.unusedVariables false
set_option linter.unusedSimpArgs false
namespace Go.Proofs.YtcbobceggjndlaaGreatDoor
open Go.RowKit

/-- Some map. -/
def MapPost (w : World) (e : Ending) (w' : World) : Prop := Below w.heap.size w w' ∧ ∃ m, e = .returned (.map (some m))
theorem pathsOf_ok (A : Option Addr) (c n : Nat) (w : World) : Calls Tryz.prog 99 #[.agg #[.slice A n c, .slice none 0 0, .slice none 0 0]] w (MapPost w) := by
  have hmk := fun (W : World) => run_makeMap (P := Tryz.prog) 111 W
  go_enter Tryz.func99, Tryz.ntmps99
  have P0 := PB.new w A n c
  have P1 := P0.step ((Below.refl _ _).alloc (Nat.le_refl _) (.map #[] 0))
  have q1 := P1.c1
  go_wp2_with fail
  refine wp_loop_rounds 1 ?_
  rw [rounds_succ]
  go_wp2_with fail
  go_ret
  exact ⟨P1.2, _, rfl⟩
theorem degree_ok (v : Value) (id : Int) (w : World) : Calls Tryz.prog 125 #[.agg #[v, .slice none 0 0, .slice none 0 0], .int .i64 id] w fun e w' => e = .returned (.int .i64 0) ∧ Below w.heap.size w w' := by
  go_enter Tryz.func125, Tryz.ntmps125
  go_wp2_with fail
  go_rounds 1
  go_ret
  refine ⟨rfl, ?_⟩
  go_grown
theorem find_ok (m : Value) (A : Option Addr) (c : Nat) (x y : Int) (w : World) : Calls Tryz.prog 124 #[m, .slice A 1 c, .agg #[.int .i64 x, .int .i64 y]] w fun e w' => e = .returned (.int .i64 0) ∧ Below w.heap.size w w' := by
  go_enter Tryz.func124, Tryz.ntmps124
  go_wp2_with fail
  go_rounds 1
  go_ret
  refine ⟨rfl, ?_⟩
  go_grown
/-- One cycle, which is empty. -/
def CycPost (w : World) (e : Ending) (w' : World) : Prop := Below w.heap.size w w' ∧ ∃ b c, e = .returned (.slice (some ⟨b, 0, none⟩) 1 c) ∧ b < w'.heap.size ∧ w'.cell? ⟨b, 0, none⟩ = some (.slice none 0 0)
theorem gcycles_ok (t : Int) (v : Value) (w : World) : Calls Tryz.prog 127 #[.agg #[.int .i64 t, .slice none 0 0, .slice none 0 0, v]] w (CycPost w) := by
  go_enter Tryz.func127, Tryz.ntmps127
  go_wp2_with fail
  go_ret
  refine ⟨((Below.refl _ _).alloc (Nat.le_refl _) _).alloc (by simp) _, _, _, rfl, by simp, ?_⟩
  simp

theorem len_newMap (W : World) (b q : Nat) (h : W.heap[b]? = some (.map #[] 0)) (ty : TypeId) : (Builtin.len_ #[157] ty #[.map (some b)]).run Tryz.prog (W.drewN q) = .ok (.int .i64 0) (W.drewN q) := by
  have h' : (W.drewN q).heap[b]? = some (.map #[] 0) := h
  have hg : (getObj b).run Tryz.prog (W.drewN q) = .ok (.map #[] 0) (W.drewN q) := MapKept.run_getObj_map h'
  simp [Builtin.len_, run_underlying Tryz.underlying157, Sem.run_bind, Result.andThen, hg, goInt, go_sem]

/-- Some list, and true. -/
def FacePost (w : World) (e : Ending) (w' : World) : Prop := Below w.heap.size w w' ∧ ∃ v, e = .returned (.tuple #[v, .bool true])
set_option maxHeartbeats 4000000 in
theorem faces_ok (A : Option Addr) (c n : Nat) (bl cl : Nat) (Av : Option Addr) (nv cv : Nat) (w : World) (hbl : bl < w.heap.size) (h0 : w.cell? ⟨bl, 0, none⟩ = some (.int .i64 0)) (h1 : w.cell? ⟨bl, 1, none⟩ = some (.slice none 0 0)) (h2 : w.cell? ⟨bl, 2, none⟩ = some (.slice none 0 0)) (h3 : w.cell? ⟨bl, 3, none⟩ = some (.slice Av nv cv)) :
    Calls Tryz.prog 101 #[.agg #[.slice A n c, .slice none 0 0, .slice none 0 0], .slice (some ⟨bl, 0, none⟩) 1 cl] w (FacePost w) := by
  have hmk := fun (W : World) => run_makeMap (P := Tryz.prog) 157 W
  go_enter Tryz.func101, Tryz.ntmps101
  go_wp2_with fail
  have P0 := PB.new w A n c
  have hbM := (Below.refl _ (w.alloc (.cells #[.slice A n c, .slice none 0 0, .slice none 0 0] 38))).alloc (Nat.le_refl _) (.map #[] 0)
  have P1 := P0.step hbM
  have M1 : ((w.alloc (.cells #[.slice A n c, .slice none 0 0, .slice none 0 0] 38)).alloc (.map #[] 0)).heap[w.heap.size + 1]? = some (.map #[] 0) := by
    have := heap_alloc_new (w.alloc (.cells #[.slice A n c, .slice none 0 0, .slice none 0 0] 38)) (.map #[] 0)
    simpa using this
  obtain ⟨W1, hW1⟩ : ∃ W, (w.alloc (.cells #[.slice A n c, .slice none 0 0, .slice none 0 0] 38)).alloc (.map #[] 0) = W := ⟨_, rfl⟩
  have hz1 : w.heap.size + 2 ≤ W1.heap.size := by rw [← hW1]; simp
  rw [hW1] at P1 M1 ⊢
  clear hW1 hbM P0
  have g0 := (P1.2.cell (p := ⟨bl, 0, none⟩) hbl).trans h0
  have g1 := (P1.2.cell (p := ⟨bl, 1, none⟩) hbl).trans h1
  have g2 := (P1.2.cell (p := ⟨bl, 2, none⟩) hbl).trans h2
  have g3 := (P1.2.cell (p := ⟨bl, 3, none⟩) hbl).trans h3
  refine wp_loop_rounds 2 ?_
  rw [rounds_succ]
  go_wp2_with fail
  refine (gcycles_ok _ _ _).mono ?_
  rintro e w2 ⟨hb2, b2, c2, rfl, hl2, cc2⟩
  have hb12 : Below W1.heap.size W1 w2 := ((Below.refl _ _).alloc (Nat.le_refl _) _).trans (hb2.mono (by simp))
  have P2 := P1.step hb12
  have M2 := (hb12.block (w.heap.size + 1) (by omega)).trans M1
  have hz2 := hb12.size
  clear hb2 P1 M1 g0 g1 g2 g3
  go_wp2_with fail
  refine wp_loop_rounds 2 ?_
  rw [rounds_succ]
  go_wp2_with fail
  refine wp_loop_rounds 1 ?_
  rw [rounds_succ]
  go_wp2_with fail
  rw [rounds_succ]
  go_wp2_with (at_builtin; refine append_int rfl _ _ rfl w2 w2.heap.size (.slice none 0 0) [] 0 rfl (OI.nil _ _) rfl (by simp) (Nat.le_refl _) ?_; intro v3 w3 ho3 hb3 hg3)
  have P3 := P2.step hb3
  have M3 := (hb3.block (w.heap.size + 1) (by omega)).trans M2
  have hz3 := hb3.size
  have hbf := P3.2
  have q2 := P3.c2
  clear hg3 ho3 hb3 P2 M2 cc2
  rw [rounds_succ]
  go_wp2_with fail
  have hlen : ∀ (q : Nat) ty, (Builtin.len_ #[157] ty #[.map (some (w.heap.size + 1))]).run Tryz.prog (w3.drewN q) = .ok (.int .i64 0) (w3.drewN q) := fun q ty => len_newMap _ _ _ M3 ty
  go_quiet (fail)
  go_wp2_with fail
  go_ret2
  exact ⟨below_drewN hbf _, _, rfl⟩
end Go.Proofs.YtcbobceggjndlaaGreatDoor
