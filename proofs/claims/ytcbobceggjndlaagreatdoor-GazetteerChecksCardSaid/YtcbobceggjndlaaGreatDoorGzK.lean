/-
  gazetteer.where: the entries that a condition accepts, as a range over a function.
-/
import Derived.Test.YtcbobceggjndlaaGreatDoorGzJ
import Derived.RangeFuncNested
import Derived.RangeFuncBound
import Derived.RangeFuncCalls
import Derived.RangeFuncLeaves
import Derived.RangeFuncFrom
import Derived.Shelf.Abstract
import Derived.Shelf.RegionOpen
import Derived.OwnWalkIn
import Derived.TacticsInMore
import Derived.LoopNIn
import Derived.LoopIn
set_option linter.unusedVariables false
set_option linter.unusedSimpArgs false
namespace Go.Proofs.YtcbobceggjndlaaGreatDoor
open Go.RowKit Go.Shelf
attribute [local go_sem] Oper.semAt_some

def entV (x : Ent) : Value := .agg #[.string x.name, .int .i64 x.feat, .int .i64 x.sheet, .string x.sq]
/-- What a round keeps: all that lies below n₀, and two blocks. -/
structure KpW (n₀ b1 b2 : Nat) (W W' : World) : Prop where
  bel : Below n₀ W W'
  fst : W'.heap[b1]? = W.heap[b1]?
  snd : W'.heap[b2]? = W.heap[b2]?
theorem KpW.refl (n₀ b1 b2 : Nat) (W : World) : KpW n₀ b1 b2 W W := ⟨Below.refl _ _, rfl, rfl⟩
theorem KpW.trans {n₀ b1 b2 : Nat} {A B C : World} (h : KpW n₀ b1 b2 A B) (k : KpW n₀ b1 b2 B C) : KpW n₀ b1 b2 A C := ⟨h.bel.trans k.bel, k.fst.trans h.fst, k.snd.trans h.snd⟩
theorem KpW.cell1 {n₀ b1 b2 : Nat} {A B : World} (h : KpW n₀ b1 b2 A B) (i : Nat) : B.cell? ⟨b1, i, none⟩ = A.cell? ⟨b1, i, none⟩ := World.cell?_of_block (w := A) h.fst
theorem KpW.cell2 {n₀ b1 b2 : Nat} {A B : World} (h : KpW n₀ b1 b2 A B) (i : Nat) : B.cell? ⟨b2, i, none⟩ = A.cell? ⟨b2, i, none⟩ := World.cell?_of_block (w := A) h.snd
theorem KpW.of_below {n₀ b1 b2 : Nat} {W w2 : World} (hb : Below W.heap.size W w2) (h : n₀ ≤ W.heap.size) (h1 : b1 < W.heap.size) (h2 : b2 < W.heap.size) : KpW n₀ b1 b2 W w2 := ⟨hb.mono h, hb.block _ h1, hb.block _ h2⟩
theorem grownBy_below {w w' : World} (h : Below w.heap.size w w') (row : Option Nat) : w.grownBy w' row := ⟨h.os, h.tape, h.output, h.size, fun k hk _ => h.block k hk⟩
/-- What has come when k entries have been looked at. -/
def wh (es : List Ent) (ac : Ent → Bool) (k : Nat) : List (Fin es.length) := ((List.finRange es.length).take k).filter fun i => ac (en es i)
theorem wh_succ {es : List Ent} {ac : Ent → Bool} {k : Nat} (h : k < es.length) : wh es ac (k + 1) = wh es ac k ++ (if ac (en es k) then [⟨k, h⟩] else []) := by
  unfold wh
  rw [List.take_succ_eq_append_getElem (by simpa using h), List.filter_append]
  simp [List.filter_cons]
theorem wh_yes {es : List Ent} {ac : Ent → Bool} {k : Nat} (h : k < es.length) (ha : ac (en es k) = true) : wh es ac (k + 1) = wh es ac k ++ [⟨k, h⟩] := by rw [wh_succ h, if_pos ha]
theorem wh_no {es : List Ent} {ac : Ent → Bool} {k : Nat} (h : k < es.length) (ha : ac (en es k) = false) : wh es ac (k + 1) = wh es ac k := by rw [wh_succ h, if_neg (by simp [ha]), List.append_nil]
theorem wh_len (es : List Ent) (ac : Ent → Bool) (k : Nat) : (wh es ac k).length ≤ k := Nat.le_trans (List.length_filter_le _ _) (List.length_take_le _ _)

set_option maxRecDepth 100000 in
set_option maxHeartbeats 8000000 in
theorem where1_in (l b1 b2 n₀ cap ga : Nat) (cb : Array Value) (A : Option Addr) (es : List Ent) (ac : Ent → Bool) (hx : es.length ≤ 1000000000000) (J Jx : List (Fin es.length) → World → Prop)
    (hY : ∀ (pre : List (Fin es.length)) (x : Fin es.length) (W : World), J pre W → pre.length < es.length → YieldAt Fence.wide 1 Tryz.prog l #[entV (en es x)] W fun e W' =>
      (e = .returned (.bool true) ∧ J (pre ++ [x]) W' ∧ KpW n₀ b1 b2 W W') ∨ (e = .returned (.bool false) ∧ Jx (pre ++ [x]) W'))
    (W : World) (hn₀ : n₀ ≤ W.heap.size) (hb1 : b1 < W.heap.size) (hb2 : b2 < W.heap.size) (hB1 : W.cell? ⟨b1, 0, none⟩ = some (.slice A es.length cap)) (hB2 : W.cell? ⟨b2, 0, none⟩ = some (.func (.func ga) #[] cb))
    (hJ : ∀ pre X Y, J pre X → Below X.heap.size X Y → J pre Y)
    (eg : ∀ args w, (callFunc ga args).run Tryz.prog w = .ok (.enter ga args) w)
    (hac : ∀ k, k < es.length → ∀ X, KpW n₀ b1 b2 W X → Calls Tryz.prog ga (#[entV (en es k)] ++ cb) X fun e X' => e = .returned (.bool (ac (en es k))) ∧ Below X.heap.size X X')
    (hc : ∀ k, k < es.length → ∃ b off, A = some ⟨b, off, none⟩ ∧ b < n₀ ∧ ∀ j, j < es.length → EntAt W b (off + j * 4) (en es j)) (h0 : J [] W) :
    CallsIn Fence.wide 2 Tryz.prog 62 #[.func (.yield l) #[] #[], .pointer (some ⟨b1, 0, none⟩), .pointer (some ⟨b2, 0, none⟩)] W fun e W' => (∃ v, e = .returned v) ∧
      ((∃ ys, ys = wh es ac es.length ∧ J ys W') ∨ (∃ pre, (∃ k, k ≤ es.length ∧ pre = wh es ac k) ∧ Jx pre W')) := by
  refine callsIn_of_wp Tryz.func62 rfl trivial ?_ rfl
  simp only [Tryz.ntmps62, List.size_toArray, List.length_cons, List.length_nil, Nat.reduceAdd, Nat.reduceSub, Array.replicate_succ, Array.replicate_zero, List.push_toArray, List.append_toArray, List.nil_append, List.cons_append]
  gi_wp2_with fail
  gi_loopw [8] (fun i wr => ∃ k : Nat, k ≤ es.length ∧ i = .int .i64 k ∧ J (wh es ac k) wr ∧ KpW n₀ b1 b2 W wr ∧ W.heap.size ≤ wr.heap.size) (fun i _ => es.length - (intOf i).toNat)
  case atStart => exact ⟨0, Nat.zero_le _, by simp, h0, KpW.refl _ _ _ _, Nat.le_refl _⟩
  case round =>
    obtain ⟨k, hk, rfl, hJs, hnx, hsz⟩ := hrel
    by_cases hlt : k < es.length
    · obtain ⟨b, off, rfl, hb, hcs⟩ := hc k hlt
      obtain ⟨d0, d1, d2, d3⟩ := (hcs k hlt).below hnx.bel hb
      have HACW := Lib.hid hac
      have HY := Lib.hid hY
      have HJ := Lib.hid hJ
      have hB1w := (hnx.cell1 0).trans hB1
      have hB2w := (hnx.cell2 0).trans hB2
      have HSZ : b2 < wr.heap.size := Nat.lt_of_lt_of_le hb2 hsz
      clear hcs hc hac hY hJ
      have hal : Below wr.heap.size wr (wr.alloc (.cells #[.string (en es k).name, .int .i64 (en es k).feat, .int .i64 (en es k).sheet, .string (en es k).sq] 29)) := (Below.refl _ _).alloc (Nat.le_refl _) _
      have hkx := hnx.trans (KpW.of_below hal (by omega) (by omega) HSZ)
      have k0 := Bk.new wr #[.string (en es k).name, .int .i64 (en es k).feat, .int .i64 (en es k).sheet, .string (en es k).sq] 29
      gi_wp2_with fail
      refine ⟨trivial, (callsIn_wide.2 (HACW.out k hlt _ hkx)).mono ?_⟩
      rintro e w1 ⟨rfl, hb1⟩
      have k1 := k0.below hb1 (by simp)
      have x0 : w1.cell? ⟨wr.heap.size, 0, none⟩ = some (.string (en es k).name) := k1.cell 0
      have x1 : w1.cell? ⟨wr.heap.size, 1, none⟩ = some (.int .i64 (en es k).feat) := k1.cell 1
      have x2 : w1.cell? ⟨wr.heap.size, 2, none⟩ = some (.int .i64 (en es k).sheet) := k1.cell 2
      have x3 : w1.cell? ⟨wr.heap.size, 3, none⟩ = some (.string (en es k).sq) := k1.cell 3
      have hb01 : Below wr.heap.size wr w1 := hal.trans (hb1.mono (by simp))
      have hk1 : KpW n₀ b1 b2 W w1 := hnx.trans (KpW.of_below hb01 (by omega) (by omega) HSZ)
      have hJ1 := HJ.out _ _ _ hJs hb01
      have hs1 : W.heap.size ≤ w1.heap.size := Nat.le_trans hsz hb01.size
      clear k0 k1 hal hkx hb1 d0 d1 d2 d3 hB1w hB2w
      rcases Bool.eq_false_or_eq_true (ac (en es k)) with hay | hay
      · have HW := Lib.hid (wh_yes hlt hay)
        obtain ⟨fn, tmps, assign, body, hy, hR⟩ := HY.out _ ⟨k, hlt⟩ w1 hJ1 (Nat.lt_of_le_of_lt (wh_len es ac k) hlt)
        simp only [entV] at hy
        rw [hay]
        clear hay
        gi_wp2_with fail
        refine hR.mono ?_
        rintro e W3 (⟨rfl, hJ3, hk3⟩ | ⟨rfl, hJx3⟩)
        · gi_wp2_with fail
          go_roundw
          case rel => exact ⟨k + 1, by omega, by go_num, by rw [HW.out]; exact hJ3, hk1.trans hk3, Nat.le_trans hs1 hk3.bel.size⟩
          case measure => simp [intOf]; omega
        · gi_wp2_with fail
          refine bodyPost_ret (results_none rfl _ _ _) rfl ?_
          exact ⟨⟨_, rfl⟩, .inr ⟨_, ⟨k + 1, by omega, by rw [HW.out]⟩, hJx3⟩⟩
      · have HW := Lib.hid (wh_no hlt hay)
        rw [hay]
        clear hay
        gi_wp2_with fail
        refine ⟨(fun f h => by cases h), ?_⟩
        gi_wp2_with fail
        go_roundw
        case rel => exact ⟨k + 1, by omega, by go_num, by rw [HW.out]; exact hJ1, hk1, hs1⟩
        case measure => simp [intOf]; omega
    · obtain rfl : k = es.length := by omega
      gi_wp2_with fail
      go_end0
      exact ⟨⟨_, rfl⟩, .inl ⟨_, rfl, hJs⟩⟩

set_option maxHeartbeats 1000000 in
theorem where_any (A : Option Addr) (n c : Nat) (g : Nat) (cb : Array Value) (w : World) :
    Calls Tryz.prog 27 #[.slice A n c, .func (.func g) #[] cb] w fun e w' => e = .returned (.func (.func 62) #[] #[.pointer (some ⟨w.heap.size, 0, none⟩), .pointer (some ⟨w.heap.size + 1, 0, none⟩)]) ∧ w' = (w.alloc (.cells #[.slice A n c] 22)).alloc (.cells #[.func (.func g) #[] cb] 70) := by
  go_enter Tryz.func27, Tryz.ntmps27
  go_wp2_with fail
  go_ret
  exact ⟨rfl, rfl⟩
/-- gazetteer.where: a value that runs through the entries that are accepted. -/
theorem where_stops (b1 b2 n₀ cap ga : Nat) (cb : Array Value) (A : Option Addr) (es : List Ent) (ac : Ent → Bool) (hx : es.length ≤ 1000000000000) (w : World) (hn₀ : n₀ ≤ w.heap.size) (hb1 : b1 < w.heap.size) (hb2 : b2 < w.heap.size)
    (hB1 : w.cell? ⟨b1, 0, none⟩ = some (.slice A es.length cap)) (hB2 : w.cell? ⟨b2, 0, none⟩ = some (.func (.func ga) #[] cb))
    (eg : ∀ args w, (callFunc ga args).run Tryz.prog w = .ok (.enter ga args) w)
    (hac : ∀ k, k < es.length → ∀ X, KpW n₀ b1 b2 w X → Calls Tryz.prog ga (#[entV (en es k)] ++ cb) X fun e X' => e = .returned (.bool (ac (en es k))) ∧ Below X.heap.size X X')
    (hc : ∀ k, k < es.length → ∃ b off, A = some ⟨b, off, none⟩ ∧ b < n₀ ∧ ∀ j, j < es.length → EntAt w b (off + j * 4) (en es j)) :
    SeqStopsK Fence.wide 2 Tryz.prog 62 #[.pointer (some ⟨b1, 0, none⟩), .pointer (some ⟨b2, 0, none⟩)] (fun x : Fin es.length => #[entV (en es x)]) (KpW n₀ b1 b2) (fun ys => ys = wh es ac es.length)
      (fun pre => ∃ k, k ≤ es.length ∧ pre = wh es ac k) es.length w := fun l J Jx W hW h1 h2 hY h0 => by
  have hz := hW.size
  refine where1_in l b1 b2 n₀ cap ga cb A es ac hx J Jx hY W (by omega) (by omega) (by omega) ((hW.cell (p := ⟨b1, 0, none⟩) hb1).trans hB1) ((hW.cell (p := ⟨b2, 0, none⟩) hb2).trans hB2) (fun pre X Y hj hb => h1 pre X Y none hj (grownBy_below hb none) (fun r e => by cases e)) eg
    (fun k hk X hX => hac k hk X ((KpW.of_below hW hn₀ hb1 hb2).trans hX)) (fun k hk => ?_) h0
  obtain ⟨b, off, e, hb, hcs⟩ := hc k hk
  exact ⟨b, off, e, hb, fun j hj => (hcs j hj).below hW (by omega)⟩
end Go.Proofs.YtcbobceggjndlaaGreatDoor
