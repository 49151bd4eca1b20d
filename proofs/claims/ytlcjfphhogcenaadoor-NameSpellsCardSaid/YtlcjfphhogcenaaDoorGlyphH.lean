/-
  Walks of layer 6: the closures of directions, slices.IndexFunc over them, slices.Backward.
-/
import Derived.Test.YtlcjfphhogcenaaDoorGlyphG
import Derived.RangeFuncNested
import Derived.RangeFuncBound
import Derived.RangeFuncCalls
import Derived.RangeFuncLeaves
import Derived.RangeFuncFrom
import Derived.Shelf.Abstract
import Derived.Shelf.RegionOpen
import Derived.OwnWalkIn
import Derived.TacticsInMore
import Derived.LoopNIn
import Derived.LoopIn
set_option linter.unusedVariables false
set_option linter.unusedSimpArgs false
namespace Go.Proofs.YtlcjfphhogcenaaDoor
open Go.RowKit Go.Shelf
attribute [local go_sem] Oper.semAt_some

theorem dir1_any (r : Int) (w : World) (ht : Gl.Tab w) :
    Calls Tryd.prog 73 #[.int .i64 r] w fun e w' => e = .returned (.bool (Gl.st r)) ∧ Below w.heap.size w w' := by
  go_enter Tryd.func73, Tryd.ntmps73
  go_wp2_with (go_at_call 25; refine (gscript_any r _ ht).mono ?_; rintro e w1 ⟨rfl, hb1⟩)
  go_ret
  exact ⟨rfl, hb1⟩
theorem dir2_any (r : Int) (w : World) (ht : Gl.Tab w) :
    Calls Tryd.prog 74 #[.int .i64 r] w fun e w' => e = .returned (.bool (Gl.hb r)) ∧ Below w.heap.size w w' := by
  go_enter Tryd.func74, Tryd.ntmps74
  go_wp2_with (go_at_call 25; refine (gscript_any r _ ht).mono ?_; rintro e w1 ⟨rfl, hb1⟩)
  go_ret
  exact ⟨rfl, hb1⟩

/-- Where the first code point with a direction stands, or -1. -/
def IdxPost (xs : List Int) (w : World) (e : Ending) (w' : World) : Prop :=
  Below w.heap.size w w' ∧ ((e = .returned (.int .i64 (-1)) ∧ ∀ j, j < xs.length → Gl.st (gi xs j) = false) ∨ ∃ k : Nat, k < xs.length ∧ e = .returned (.int .i64 k) ∧ Gl.st (gi xs k) = true ∧ ∀ j, j < k → Gl.st (gi xs j) = false)

set_option maxHeartbeats 1000000 in
theorem idxf_any (A : Option Addr) (c : Nat) (xs : List Int) (w : World) (ht : Gl.Tab w) (hA : RI w A xs) (hx : xs.length ≤ 10000000000000) :
    Calls Tryd.prog 75 #[.slice A xs.length c, .func (.func 73) #[] #[]] w (IdxPost xs w) := by
  go_enter Tryd.func75, Tryd.ntmps75
  go_wp2_with fail
  go_loopw [8] (fun i wr => ∃ k : Nat, k ≤ xs.length ∧ i = .int .i64 k ∧ Hid (∀ j, j < k → Gl.st (gi xs j) = false) ∧ Below w.heap.size w wr) (fun i _ => xs.length - (intOf i).toNat)
  case atStart => exact ⟨0, by omega, rfl, fun j hj => absurd hj (by omega), Below.refl _ _⟩
  case round =>
    obtain ⟨k, hk, rfl, hn, hb⟩ := hrel
    by_cases hlt : k < xs.length
    · obtain ⟨b1, o1, rfl, hb1, hc1⟩ := hA k hlt
      have c1 := (hb.cell (p := ⟨b1, o1 + k, none⟩) hb1).trans (hc1 k hlt)
      have htw := ht.below hb (Nat.le_refl _)
      have hsz := hb.size
      clear hc1 hA
      cases hs : Gl.st (gi xs k)
      · go_wp2_with (go_at_call 73; refine (dir1_any _ _ htw).mono ?_; rintro e w1 ⟨rfl, hb1⟩)
        go_roundw
        case rel => exact ⟨k + 1, by omega, by go_num, fun j hj => (Nat.lt_or_eq_of_le (Nat.le_of_lt_succ hj)).elim (hn.out j) (fun e => by rw [e]; exact hs), hb.trans (hb1.mono hsz)⟩
        case measure => simp [intOf]; omega
      · go_wp2_with (go_at_call 73; refine (dir1_any _ _ htw).mono ?_; rintro e w1 ⟨rfl, hb1⟩)
        go_ret
        exact ⟨hb.trans (hb1.mono hsz), Or.inr ⟨k, hlt, rfl, hs, hn.out⟩⟩
    · obtain rfl : k = xs.length := by omega
      go_wp2_with fail
      go_ret
      exact ⟨hb, Or.inl ⟨rfl, hn.out⟩⟩

/-- What has come when k rounds of slices.Backward over n elements are over: the indexes. -/
def back (n k : Nat) : List (Fin n) := (List.finRange n).reverse.take k
theorem back_succ {n k : Nat} (h : k < n) : back n (k + 1) = back n k ++ [⟨n - 1 - k, by omega⟩] := by
  unfold back
  rw [List.take_succ_eq_append_getElem (by simpa using h)]
  simp [List.getElem_reverse]
theorem back_length {n k : Nat} (h : k ≤ n) : (back n k).length = k := by simp [back, h]
theorem back_zero (n : Nat) : back n 0 = [] := rfl

/-- What a round keeps: all that lies below n₀, and block Bs. -/
def KpB (n₀ Bs : Nat) (W W' : World) : Prop := Below n₀ W W' ∧ W'.heap[Bs]? = W.heap[Bs]?
theorem KpB.refl (n₀ Bs : Nat) (W : World) : KpB n₀ Bs W W := ⟨Below.refl _ _, rfl⟩
theorem KpB.trans {n₀ Bs : Nat} {A B C : World} (h : KpB n₀ Bs A B) (k : KpB n₀ Bs B C) : KpB n₀ Bs A C := ⟨h.1.trans k.1, k.2.trans h.2⟩
theorem KpB.cell {n₀ Bs : Nat} {A B : World} (h : KpB n₀ Bs A B) (i : Nat) : B.cell? ⟨Bs, i, none⟩ = A.cell? ⟨Bs, i, none⟩ := World.cell?_of_block (w := A) h.2

set_option maxRecDepth 100000 in
set_option maxHeartbeats 2000000 in
theorem backward1_in (F : Fence) (n : Nat) (hF : F.fn 85) (hro : F.round = none) (hn : 1 ≤ n) (l Bs n₀ cap : Nat) (A : Option Addr) (xs : List Int) (hx : xs.length ≤ 10000000000000) (J Jx : List (Fin xs.length) → World → Prop)
    (hY : ∀ (pre : List (Fin xs.length)) (x : Fin xs.length) (W : World), J pre W → pre.length < xs.length → YieldAt F (n - 1) Tryd.prog l #[.int .i64 ((x : Nat) : Int), .int .i64 (gi xs x)] W fun e W' =>
      (e = .returned (.bool true) ∧ J (pre ++ [x]) W' ∧ KpB n₀ Bs W W') ∨ (e = .returned (.bool false) ∧ Jx (pre ++ [x]) W'))
    (W : World) (hB0 : W.cell? ⟨Bs, 0, none⟩ = some (.slice A xs.length cap)) (hc : ∀ k, k < xs.length → ∃ b off, A = some ⟨b, off, none⟩ ∧ b < n₀ ∧ ∀ j, j < xs.length → W.cell? ⟨b, off + j, none⟩ = some (.int .i64 (gi xs j))) (h0 : J [] W) :
    CallsIn F n Tryd.prog 85 #[.func (.yield l) #[] #[], .pointer (some ⟨Bs, 0, none⟩)] W fun e W' => (∃ v, e = .returned v) ∧
      ((∃ ys, ys = back xs.length xs.length ∧ J ys W') ∨ (∃ pre, (∃ k, k ≤ xs.length ∧ pre = back xs.length k) ∧ Jx pre W')) := by
  refine callsIn_of_wp Tryd.func85 rfl hF ?_ hro
  simp only [Tryd.ntmps85, List.size_toArray, List.length_cons, List.length_nil, Nat.reduceAdd, Nat.reduceSub, Array.replicate_succ, Array.replicate_zero, List.push_toArray, List.append_toArray, List.nil_append, List.cons_append]
  gi_wp2
  gi_loopw [3] (fun i wr => ∃ k : Nat, k ≤ xs.length ∧ i = .int .i64 ((xs.length : Int) - 1 - k) ∧ J (back xs.length k) wr ∧ KpB n₀ Bs W wr)
    (fun i _ => (intOf i + 1).toNat)
  case atStart => exact ⟨0, Nat.zero_le _, by simp, h0, KpB.refl _ _ _⟩
  case round =>
    obtain ⟨k, hk, rfl, hJs, hnx⟩ := hrel
    by_cases hlt : k < xs.length
    · obtain ⟨q, hq⟩ : ∃ q : Fin xs.length, (q : Nat) = xs.length - 1 - k := ⟨⟨xs.length - 1 - k, by omega⟩, rfl⟩
      have hsc : back xs.length (k + 1) = back xs.length k ++ [q] := by
        rw [back_succ hlt]
        congr 2
        exact Fin.ext hq.symm
      obtain ⟨b, off, rfl, hb, hcs⟩ := hc q q.isLt
      have hcx := (hnx.1.cell (p := ⟨b, off + q, none⟩) hb).trans (hcs q q.isLt)
      obtain ⟨fn, tmps, assign, body, hy, hR⟩ := hY _ q wr hJs (by rw [back_length hk]; exact hlt)
      have hBw := (hnx.cell 0).trans hB0
      clear hcs hc
      have ek : (xs.length : Int) - 1 - (k : Int) = ((q : Nat) : Int) := by omega
      rw [ek]
      have hlt2 : (q : Nat) < xs.length := q.isLt
      have HSC := Lib.hid hsc
      have HQ := Lib.hid hq
      clear ek hsc hq
      gi_wp2
      refine hR.mono ?_
      rintro e W3 (⟨rfl, hJ3, hk3⟩ | ⟨rfl, hJx3⟩)
      · gi_wp2
        go_roundw
        case rel => exact ⟨k + 1, by omega, by have := HQ.out; congr 1; omega, by rw [HSC.out]; exact hJ3, hnx.trans hk3⟩
        case measure => have := HQ.out; first | (simp [intOf]; done) | (simp [intOf]; omega)
      · gi_wp2
        refine bodyPost_ret (results_none rfl _ _ _) rfl ?_
        exact ⟨⟨_, rfl⟩, .inr ⟨_, ⟨k + 1, by omega, by rw [HSC.out]⟩, hJx3⟩⟩
    · obtain rfl : k = xs.length := by omega
      gi_wp2
      go_end0
      exact ⟨⟨_, rfl⟩, .inl ⟨_, rfl, hJs⟩⟩

set_option maxHeartbeats 1000000 in
theorem backward_in (F : Fence) (n : Nat) (hF : F.fn 76) (hro : F.round = none) (a : Option Addr) (len cap : Nat) (w : World) :
    CallsIn F n Tryd.prog 76 #[.slice a len cap] w fun e w' => e = .returned (.func (.func 85) #[] #[.pointer (some ⟨w.heap.size, 0, none⟩)]) ∧ w' = w.alloc (.cells #[.slice a len cap] 22) := by
  refine callsIn_of_wp Tryd.func76 rfl hF ?_ hro
  simp only [Tryd.ntmps76, List.size_toArray, List.length_cons, List.length_nil, Nat.reduceAdd, Nat.reduceSub, Array.replicate_succ, Array.replicate_zero, List.push_toArray, List.append_toArray, List.nil_append, List.cons_append]
  gi_wp2
  go_ret
  exact ⟨rfl, rfl⟩

/-- slices.Backward(xs) hands back a value that runs through xs from behind, with the indexes. -/
theorem backward_stops (F : Fence) (n : Nat) (hF : F.fn 85) (hro : F.round = none) (hn : 1 ≤ n) (Bs n₀ cap : Nat) (A : Option Addr) (xs : List Int) (hx : xs.length ≤ 10000000000000) (w : World) (hBs : Bs < w.heap.size) (hn₀ : n₀ ≤ w.heap.size)
    (hc : w.cell? ⟨Bs, 0, none⟩ = some (.slice A xs.length cap)) (hI : ∀ k, k < xs.length → ∃ b off, A = some ⟨b, off, none⟩ ∧ b < n₀ ∧ ∀ j, j < xs.length → w.cell? ⟨b, off + j, none⟩ = some (.int .i64 (gi xs j))) :
    SeqStopsK F n Tryd.prog 85 #[.pointer (some ⟨Bs, 0, none⟩)] (fun x : Fin xs.length => #[Value.int .i64 ((x : Nat) : Int), Value.int .i64 (gi xs x)]) (KpB n₀ Bs) (fun ys => ys = back xs.length xs.length)
      (fun pre => ∃ k, k ≤ xs.length ∧ pre = back xs.length k) xs.length w := fun l J Jx W hW _ _ hY h0 => by
  refine backward1_in F n hF hro hn l Bs n₀ cap A xs hx J Jx hY W ?_ (fun k hk => ?_) h0
  · exact (hW.cell (p := ⟨Bs, 0, none⟩) hBs).trans hc
  · obtain ⟨b, off, e, hb, hcs⟩ := hI k hk
    exact ⟨b, off, e, hb, fun j hj => (hW.cell (p := ⟨b, off + j, none⟩) (by show b < w.heap.size; omega)).trans (hcs j hj)⟩
theorem KpB.t {n₀ Bs : Nat} : ∀ {A B C : World}, KpB n₀ Bs A B → KpB n₀ Bs B C → KpB n₀ Bs A C := fun h k => h.trans k
theorem KpB.b {n₀ Bs : Nat} {w : World} (h : n₀ ≤ w.heap.size) (hB : Bs < w.heap.size) : ∀ (W : World) (l : Nat) (o o' : Obj), w.heap.size ≤ l → W.heap[l]? = some o → o.isCells = false → o.isWalk = false → KpB n₀ Bs W (W.putObj l o') :=
  fun W l o o' hl ho h1 h2 => ⟨belowK_b h W l o o' hl ho h1 h2, World.putObj_heap_other (by omega)⟩
end Go.Proofs.YtlcjfphhogcenaaDoor
