/-
  Walks of layer 6: Decode of the program.
-/
import Derived.Test.YtlcjfphhogcenaaDoorGlyphC
import Derived.Test.YtlcjfphhogcenaaDoorBaseB
set_option linter.unusedVariables false
set_option linter.unusedSimpArgs false
namespace Go.Proofs.YtlcjfphhogcenaaDoor
open Go.RowKit

/-- A list of integers of the call's own, and an error number. -/
def DecPost (o : Option (List Int)) (w : World) (e : Ending) (w' : World) : Prop :=
  Below w.heap.size w w' ∧ ∃ v, OI w' w.heap.size v (o.getD []) ∧ e = .returned (.tuple #[v, .int .i64 (if o.isSome then 0 else 4)])

theorem dec_some {s : ByteArray} {pos : Nat} (h : pos < s.size) (hs : 0 ≤ Gl.script ((Utf8.decode s pos).1 : Int)) (acc : List Int)
    (ha : Gl.decode s.data.toList = (Gl.decode (s.data.toList.drop pos)).map (acc ++ ·)) :
    Gl.decode s.data.toList = (Gl.decode (s.data.toList.drop (pos + (Utf8.decode s pos).2))).map ((acc ++ [((Utf8.decode s pos).1 : Int)]) ++ ·) := by
  rw [← Lib.decodeL_drop] at hs ⊢
  have hl : 0 < (s.data.toList.drop pos).length := by rw [List.length_drop]; have := Lib.size_eq s; omega
  obtain ⟨h1, h2⟩ := Gl.go_some hl hs
  rw [ha, Gl.decode_step hl, h1]
  simp only
  rw [List.drop_drop, ← h2, Option.map_map]
  congr 1
  funext L
  simp
theorem dec_none {s : ByteArray} {pos : Nat} (h : pos < s.size) (hs : Gl.script ((Utf8.decode s pos).1 : Int) < 0) (acc : List Int)
    (ha : Gl.decode s.data.toList = (Gl.decode (s.data.toList.drop pos)).map (acc ++ ·)) : Gl.decode s.data.toList = none := by
  rw [← Lib.decodeL_drop] at hs
  have hl : 0 < (s.data.toList.drop pos).length := by rw [List.length_drop]; have := Lib.size_eq s; omega
  rw [ha, Gl.decode_step hl, Gl.go_none hs]; rfl
theorem dec_end {s : ByteArray} {pos : Nat} (h : ¬ pos < s.size) (acc : List Int)
    (ha : Gl.decode s.data.toList = (Gl.decode (s.data.toList.drop pos)).map (acc ++ ·)) : Gl.decode s.data.toList = some acc := by
  have := Lib.size_eq s
  rw [ha, List.drop_of_length_le (by omega), Gl.decode_nil]; simp

set_option maxHeartbeats 4000000 in
theorem gdecode_any (s : ByteArray) (w : World) (ht : Gl.Tab w) (hs : s.size ≤ 10000000000000) :
    Calls Tryd.prog 19 #[.string s] w (DecPost (Gl.decode s.data.toList) w) := by
  have hv := ht.lt
  go_enter Tryd.func19, Tryd.ntmps19
  go_wp2_with fail
  go_loopw [2] (fun v wr => ∃ (pos : Nat) (acc : List Int), OI wr (w.heap.size + 1) v acc ∧ wr.heap[w.heap.size]? = some (.stringIter s pos) ∧ Below w.heap.size w wr ∧ Hid (Gl.decode s.data.toList = (Gl.decode (s.data.toList.drop pos)).map (acc ++ ·)) ∧ acc.length ≤ pos ∧ acc.length ≤ s.size) (fun _ wr => s.size - wr.iterPos w.heap.size)
  case atStart =>
    exact ⟨0, [], OI.nil _ _, by have := World.iter_heap w s 0; simpa using this, (Below.refl _ w).alloc (Nat.le_refl _) _, by simp [Hid], by simp, by simp⟩
  case round =>
    obtain ⟨pos, acc, hown, hit, hbw, hacc, hal, hal2⟩ := hrel
    have hsz : w.heap.size < wr.heap.size := (Array.getElem?_eq_some_iff.1 hit).1
    have htw := ht.below hbw (Nat.le_refl _)
    by_cases hp : pos < s.size
    · have hnx : ∀ ty, (Instr.next (.pointer (some ⟨w.heap.size, 0, none⟩)) true ty).run Tryd.prog wr = _ := fun ty => Lib.run_next_any_at wr w.heap.size s pos ty hit hp
      have hwd := Lib.width_pos s pos
      have hd1 := decode_le s pos
      have hown2 := hown.iterAt (Nat.lt_succ_self _) s (pos + (Utf8.decode s pos).2)
      have hit2 := Lib.iterAt_heap wr w.heap.size s pos (pos + (Utf8.decode s pos).2) hit
      have hbw2 := Lib.below_iterAt hbw (k := w.heap.size) (by omega) s (pos + (Utf8.decode s pos).2)
      have htw2 := htw.iterAt (k := w.heap.size) (by omega) s (pos + (Utf8.decode s pos).2)
      by_cases h0 : Gl.script ((Utf8.decode s pos).1 : Int) < 0
      · have hfin := dec_none hp h0 acc hacc.out
        have HF := Lib.hid hfin
        clear hfin
        go_wp2_with (go_at_call 25; refine (gscript_any _ _ htw2).mono ?_; rintro e w1 ⟨rfl, hb1⟩)
        go_ret2
        exact ⟨hbw2.trans (hb1.mono (by rw [Lib.iterAt_size]; omega)), .slice none 0 0, by rw [HF.out]; exact OI.nil _ _, by rw [HF.out]; rfl⟩
      · have hacc2 := Lib.hid (dec_some hp (by omega) acc hacc.out)
        go_wp2_with (go_at_call 25; refine (gscript_any _ _ htw2).mono ?_)
        rintro e w1 rfl hb1
        have hz1 := hb1.size
        rw [Lib.iterAt_size] at hz1
        have hown3 := hown2.below hb1 (Nat.le_refl _)
        go_wp2_with (at_builtin; go_loud (refine append_int rfl _ _ rfl w1 (w.heap.size + 1) u2 acc ((Utf8.decode s pos).1 : Int) rfl hown3 rfl (by omega) (by omega) ?_; intro v' w2 hown4 hb2 hg2))
        go_roundw
        case rel =>
          have hi1 : w1.heap[w.heap.size]? = some (.stringIter s (pos + (Utf8.decode s pos).2)) := (hb1.block _ (by rw [Lib.iterAt_size]; omega)).trans hit2
          exact ⟨pos + (Utf8.decode s pos).2, acc ++ [((Utf8.decode s pos).1 : Int)], hown4, (hb2.block _ (by omega)).trans hi1, (hbw2.trans (hb1.mono (by rw [Lib.iterAt_size]; omega))).trans (hb2.mono (by omega)), hacc2, by simp; omega, by simp; omega⟩
        case measure =>
          have hi1 : w1.heap[w.heap.size]? = some (.stringIter s (pos + (Utf8.decode s pos).2)) := (hb1.block _ (by rw [Lib.iterAt_size]; omega)).trans hit2
          simp only [World.iterPos, (hb2.block _ (by omega)).trans hi1, hit]
          omega
    · have hnx : ∀ ty, (Instr.next (.pointer (some ⟨w.heap.size, 0, none⟩)) true ty).run Tryd.prog wr = _ := fun ty => Lib.run_next_end_at wr w.heap.size s pos ty hit hp
      have hfin := Lib.hid (dec_end hp acc hacc.out)
      go_wp2_with fail
      go_ret2
      exact ⟨hbw, _, by rw [hfin.out]; exact hown.mono (by omega), by rw [hfin.out]; rfl⟩
end Go.Proofs.YtlcjfphhogcenaaDoor
