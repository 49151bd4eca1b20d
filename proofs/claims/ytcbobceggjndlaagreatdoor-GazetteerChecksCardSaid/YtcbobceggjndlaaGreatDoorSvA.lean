/-
  Surveys without arcs: the words in which the walks speak, and plan.Node.
-/
import Derived.Test.YtcbobceggjndlaaGreatDoorBaseB
set_option linter.unusedVariables false
set_option linter.unusedSimpArgs false
namespace Go.Proofs.YtcbobceggjndlaaGreatDoor
open Go.RowKit

/-- Block b holds just these cells, none of them frozen. -/
def Bk (w : World) (b : Nat) (t : TypeId) (cs : Array Value) : Prop := w.heap[b]? = some (.cells cs t (0, 0))
theorem Bk.lt {w : World} {b : Nat} {t : TypeId} {cs : Array Value} (h : Bk w b t cs) : b < w.heap.size := (Array.getElem?_eq_some_iff.1 h).1
theorem Bk.cell {w : World} {b : Nat} {t : TypeId} {cs : Array Value} (h : Bk w b t cs) (i : Nat) : w.cell? ⟨b, i, none⟩ = cs[i]? := by
  unfold Bk at h
  simp [World.cell?, h]
theorem Bk.frozen {w : World} {b : Nat} {t : TypeId} {cs : Array Value} (h : Bk w b t cs) (i : Nat) : w.frozen? ⟨b, i, none⟩ = false := by
  unfold Bk at h
  simp [World.frozen?, h]
theorem Bk.below {w w' : World} {b D : Nat} {t : TypeId} {cs : Array Value} (h : Bk w b t cs) (hb : Below D w w') (hD : b < D) : Bk w' b t cs := (hb.block b hD).trans h
theorem Bk.new (w : World) (cs : Array Value) (t : TypeId) : Bk (w.alloc (.cells cs t)) w.heap.size t cs := heap_alloc_new w _
theorem Bk.alloc {w : World} {b : Nat} {t : TypeId} {cs : Array Value} (h : Bk w b t cs) (o : Obj) : Bk (w.alloc o) b t cs := (Below.heap_alloc w o b h.lt).trans h

/-- A node: its identifier and its point. -/
structure Nd where
  id : Int
  x : Int
  y : Int
deriving DecidableEq
def nd (ns : List Nd) (i : Nat) : Nd := ns.getD i ⟨0, 0, 0⟩
theorem nd_eq {ns : List Nd} {i : Nat} (h : i < ns.length) : nd ns i = ns[i] := by simp [nd, h]

/-- The slice at A reads as the nodes ns. -/
def RN (w : World) (A : Option Addr) (ns : List Nd) : Prop :=
  ∀ k, k < ns.length → ∃ b off, A = some ⟨b, off, none⟩ ∧ b < w.heap.size ∧ ∀ j, j < ns.length →
    w.cell? ⟨b, off + j * 3, none⟩ = some (.int .i64 (nd ns j).id) ∧ w.cell? ⟨b, off + j * 3 + 1, none⟩ = some (.int .i64 (nd ns j).x) ∧ w.cell? ⟨b, off + j * 3 + 2, none⟩ = some (.int .i64 (nd ns j).y)
theorem RN.below {w w' : World} {A : Option Addr} {ns : List Nd} (h : RN w A ns) (hb : Below w.heap.size w w') : RN w' A ns := fun k hk => by
  obtain ⟨b, off, e, hl, hc⟩ := h k hk
  refine ⟨b, off, e, Nat.lt_of_lt_of_le hl hb.size, fun j hj => ?_⟩
  obtain ⟨c1, c2, c3⟩ := hc j hj
  exact ⟨(hb.cell (p := ⟨b, off + j * 3, none⟩) hl).trans c1, (hb.cell (p := ⟨b, off + j * 3 + 1, none⟩) hl).trans c2, (hb.cell (p := ⟨b, off + j * 3 + 2, none⟩) hl).trans c3⟩

set_option maxHeartbeats 1000000 in
theorem node_any (A : Option Addr) (c n : Nat) (ns : List Nd) (vA vF : Value) (id : Int) (k : Nat) (w : World) (hn : ns.length = n) (hA : RN w A ns) (hb : n ≤ 1000000) (hk : k < n) (hid : (nd ns k).id = id) (hno : ∀ j, j < k → (nd ns j).id ≠ id) :
    Calls Tryz.prog 82 #[.agg #[.slice A n c, vA, vF], .int .i64 id] w fun e w' => e = .returned (.tuple #[.agg #[.int .i64 (nd ns k).id, .int .i64 (nd ns k).x, .int .i64 (nd ns k).y], .bool true]) ∧ Below w.heap.size w w' := by
  go_enter Tryz.func82, Tryz.ntmps82
  go_wp2_with fail
  obtain ⟨W1, hW⟩ : ∃ W, (w.alloc (.cells #[.slice A n c, vA, vF] 38)).alloc (.cells #[.int .i64 0, .int .i64 0, .int .i64 0] 33) = W := ⟨_, rfl⟩
  have hz1 : W1.heap.size = w.heap.size + 2 := by rw [← hW]; simp
  have hb1 : Below w.heap.size w W1 := by rw [← hW]; exact ((Below.refl _ _).alloc (Nat.le_refl _) _).alloc (by simp) _
  have hk1 : Bk W1 (w.heap.size + 1) 33 #[.int .i64 0, .int .i64 0, .int .i64 0] := by
    rw [← hW]
    have := Bk.new (w.alloc (.cells #[.slice A n c, vA, vF] 38)) #[.int .i64 0, .int .i64 0, .int .i64 0] 33
    simpa using this
  rw [hW]
  clear hW
  go_loopw [11] (fun iv wr => ∃ i : Nat, iv = .int .i64 i ∧ i ≤ k ∧ Below W1.heap.size W1 wr) (fun iv _ => n - (intOf iv).toNat)
  case atStart => exact ⟨0, rfl, by omega, Below.refl _ _⟩
  case round =>
    obtain ⟨i, rfl, hi, hbw⟩ := hrel
    obtain ⟨b1, o1, rfl, hbb1, hc1⟩ := hA k (by omega)
    obtain ⟨c1, c2, c3⟩ := hc1 i (by omega)
    have hb0r : Below w.heap.size w wr := hb1.trans (hbw.mono hb1.size)
    have d1 := (hb0r.cell (p := ⟨b1, o1 + i * 3, none⟩) hbb1).trans c1
    have d2 := (hb0r.cell (p := ⟨b1, o1 + i * 3 + 1, none⟩) hbb1).trans c2
    have d3 := (hb0r.cell (p := ⟨b1, o1 + i * 3 + 2, none⟩) hbb1).trans c3
    have hk2 := hk1.below hbw (by omega)
    have q0 := hk2.cell 0
    have q1 := hk2.cell 1
    have q2 := hk2.cell 2
    have f0 := hk2.frozen 0
    have f1 := hk2.frozen 1
    have f2 := hk2.frozen 2
    have hzr := hbw.size
    have hlt : w.heap.size + 1 < wr.heap.size := by omega
    have hne' : w.heap.size + 1 ≠ wr.heap.size := by omega
    simp only [List.getElem?_toArray, List.getElem?_cons_zero, List.getElem?_cons_succ] at q0 q1 q2
    clear hc1 c1 c2 c3 hA
    by_cases he : i = k
    · subst he
      go_wp2_with fail
      refine bodyPost_ret (v := .tuple #[.agg #[.int .i64 id, .int .i64 (nd ns i).x, .int .i64 (nd ns i).y], .bool true]) (by simp [results, Tryz.results82, go_sem, *]) rfl ?_
      refine ⟨by rw [hid], ?_⟩
      go_grown
    · have hne := hno i (by omega)
      have hnb : ((nd ns i).id == id) = false := by simpa using hne
      go_wp2_with fail
      go_roundw
      case rel => exact ⟨i + 1, by go_num, by omega, hbw.alloc hzr _⟩
      case measure => simp [intOf]; omega
end Go.Proofs.YtcbobceggjndlaaGreatDoor
