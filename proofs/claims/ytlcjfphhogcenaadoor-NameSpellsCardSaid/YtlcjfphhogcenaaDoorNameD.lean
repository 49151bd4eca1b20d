/-
  Walks of layer 7: Key of the program.
-/
import Derived.Test.YtlcjfphhogcenaaDoorNameC
import Derived.WalkMore
set_option linter.unusedVariables false
set_option linter.unusedSimpArgs false
namespace Go.Proofs.YtlcjfphhogcenaaDoor
open Go.RowKit

/-- The marks, as the program ranges over them. -/
def marksS : ByteArray := ⟨#[32, 39, 40, 41, 45, 46]⟩
def mkAt (p : Nat) : Nat := [32, 39, 40, 41, 45, 46].getD p 0
theorem marks_dec : ∀ p, p < 6 → Utf8.decode marksS p = (mkAt p, 1) := by decide
theorem mark_iff (r : Int) : Nm.mark r = true ↔ ∃ p, p < 6 ∧ r = (mkAt p : Int) := by
  constructor
  · intro h
    simp [Nm.mark] at h
    rcases h with ((((h | h) | h) | h) | h) | h
    · exact ⟨0, by decide, h⟩
    · exact ⟨1, by decide, h⟩
    · exact ⟨2, by decide, h⟩
    · exact ⟨3, by decide, h⟩
    · exact ⟨4, by decide, h⟩
    · exact ⟨5, by decide, h⟩
  · rintro ⟨p, hp, rfl⟩
    have : p = 0 ∨ p = 1 ∨ p = 2 ∨ p = 3 ∨ p = 4 ∨ p = 5 := by omega
    rcases this with rfl | rfl | rfl | rfl | rfl | rfl <;> rfl
theorem mkAt_le (p : Nat) (h : p < 6) : mkAt p ≤ 46 := by
  have : p = 0 ∨ p = 1 ∨ p = 2 ∨ p = 3 ∨ p = 4 ∨ p = 5 := by omega
  rcases this with rfl | rfl | rfl | rfl | rfl | rfl <;> decide

set_option maxHeartbeats 8000000 in
theorem nkey_any (s : ByteArray) (w : World) (ht : Gl.Tab w) (hm : MaxOk w) (hs : s.size ≤ 1000000000000) :
    Calls Tryd.prog 36 #[.string s] w (KeyPost (Nm.key s.data.toList) (Nm.check s.data.toList) w) := by
  go_enter Tryd.func36, Tryd.ntmps36
  go_wp2_with fail
  go_step3
  go_wp2_with (go_at_call 62; refine (read_any _ _ ht hm hs).mono ?_)
  rintro e w1 ⟨hb1, v1, ho1, rfl⟩
  by_cases hc0 : Nm.check s.data.toList = 0
  rotate_left
  · have hcb : (Nm.check s.data.toList != 0) = true := by simp [hc0]
    have hk : Nm.key s.data.toList = [] := by unfold Nm.key; rw [Nm.read_err hc0]; rfl
    go_wp2_with fail
    rw [Exit.noGoto_ret]
    go_ret2
    exact KeyPost.err hb1 hk rfl
  obtain ⟨hd, hv, h40⟩ := Nm.read_ok hc0
  obtain ⟨L, hL⟩ : ∃ L, Nm.read s.data.toList = L := ⟨_, rfl⟩
  have HK : Hid (Nm.key s.data.toList = Nm.keyOf L) := Lib.hid (by unfold Nm.key; rw [hL])
  have HC := Lib.hid hc0
  rw [hL] at hd hv h40 ho1
  rw [hc0]
  clear hL hc0 hd
  obtain ⟨nL, hnL⟩ : ∃ n, L.length = n := ⟨_, rfl⟩
  rw [hnL] at h40
  obtain ⟨A1, c1, rfl, _, hR1, _⟩ := ho1.form_n hnL
  have HN := Lib.hid hnL
  have HV := Lib.hid hv
  clear hnL hv
  go_wp2_with fail
  go_step3
  go_wp2_with fail
  go_loopw [2, 6, 8, 19] (fun v rv mv iv wr => ∃ (i : Nat) (acc : List Int), iv = .int .i64 i ∧ i ≤ nL ∧ OI wr w1.heap.size v acc ∧ Hid (Nm.keyOf (L.take i) = acc) ∧ acc.length ≤ i ∧ Below w1.heap.size w1 wr) (fun _ _ _ iv _ => nL - (intOf iv).toNat)
  case atStart => exact ⟨0, [], rfl, by omega, OI.nil _ _, rfl, by simp, Below.refl _ _⟩
  case round =>
    obtain ⟨i, acc, rfl, hi, hown, hacc, hal, hbw⟩ := hrel
    have hsz := hbw.size
    have hb0r : Below w.heap.size w wr := hb1.trans (hbw.mono hb1.size)
    by_cases hlt : i < nL
    · have hltL : i < L.length := by rw [HN.out]; exact hlt
      obtain ⟨b1, o1, rfl, hbb1, hc1⟩ := hR1 i hltL
      have cc := (hbw.cell (p := ⟨b1, o1 + i, none⟩) hbb1).trans (hc1 i hltL)
      have hsc : 0 ≤ Gl.script (gi L i) := by rw [gi_eq hltL]; exact HV.out _ (List.getElem_mem hltL)
      have hrg := Gl.script_bounds hsc
      clear hc1 hsc
      obtain ⟨wo, rfl⟩ : ∃ wo : World, wo = wr := ⟨_, rfl⟩
      go_wp2_with fail
      go_loopw [8] (fun mv wx => ∃ p : Nat, p ≤ 6 ∧ wx.heap[wo.heap.size]? = some (.stringIter marksS p) ∧ Below wo.heap.size wo wx ∧ wx.heap.size = wo.heap.size + 1 ∧ Hid (∀ k, k < p → gi L i ≠ (mkAt k : Int))) (fun _ wx => 6 - wx.iterPos wo.heap.size)
      case atStart => exact ⟨0, by omega, World.iter_heap wo marksS 0, (Below.refl _ wo).alloc (Nat.le_refl _) _, by simp [World.iter], fun k hk => absurd hk (by omega)⟩
      case round =>
        obtain ⟨p, hp, hit, hbx, hzx, hno⟩ := hrel
        by_cases hp6 : p < 6
        · have hnx : ∀ ty, (Instr.next (.pointer (some ⟨wo.heap.size, 0, none⟩)) true ty).run Tryd.prog wr = .ok (.tuple #[.bool true, .int .i64 p, .int .i32 (mkAt p)]) (wr.iterAt wo.heap.size marksS (p + 1)) := fun ty => by
            have := Lib.run_next_any_at (P := Tryd.prog) wr wo.heap.size marksS p ty hit hp6
            rw [marks_dec p hp6] at this
            exact this
          have hit2 := Lib.iterAt_heap wr wo.heap.size marksS p (p + 1) hit
          have hbx2 := Lib.below_iterAt hbx (k := wo.heap.size) (Nat.le_refl _) marksS (p + 1)
          have hz2 := Lib.iterAt_size wr wo.heap.size marksS (p + 1)
          have hml := mkAt_le p hp6
          by_cases he : gi L i = (mkAt p : Int)
          · have heb : (gi L i == (mkAt p : Int)) = true := by simp [he]
            have HS := Lib.hid (key_skip hltL ((mark_iff _).2 ⟨p, hp6, he⟩))
            clear hltL he
            go_wp2_with fail
            go_roundw
            case rel => exact ⟨i + 1, acc, by go_num, by omega, hown.below hbx2 (Nat.le_refl _), by show _ = _; rw [HS.out, hacc.out], by omega, hbw.trans (hbx2.mono hsz)⟩
            case measure => simp [intOf]; omega
          · have heb : (gi L i == (mkAt p : Int)) = false := by simp [he]
            have HE := Lib.hid he
            clear he
            go_wp2_with fail
            go_roundw
            case rel => exact ⟨p + 1, by omega, hit2, hbx2, by omega, fun k hk => (Nat.lt_or_eq_of_le (Nat.le_of_lt_succ hk)).elim (hno.out k) (fun e => by rw [e]; exact HE.out)⟩
            case measure =>
              simp only [World.iterPos, hit2, hit]
              omega
        · have hnx : ∀ ty, (Instr.next (.pointer (some ⟨wo.heap.size, 0, none⟩)) true ty).run Tryd.prog wr = _ := fun ty => Lib.run_next_end_at wr wo.heap.size marksS p ty hit hp6
          have hmk : Nm.mark (gi L i) = false := by
            rw [Bool.eq_false_iff]
            intro hm'
            obtain ⟨k, hk, he⟩ := (mark_iff _).1 hm'
            exact hno.out k (by omega) he
          have HS := Lib.hid (key_take hltL hmk)
          clear hltL hmk
          go_wp2_with (go_at_call 29; refine (gfold_any _ _ (by omega) (by omega)).mono ?_)
          first | rintro e w4 rfl hb4 | rintro e w4 ⟨rfl, hb4⟩
          have hb14 : Below wo.heap.size wo w4 := hbx.trans (hb4.mono (by omega))
          have hown4 := hown.below hb14 (Nat.le_refl _)
          have hz4 := hb14.size
          go_wp2_with (at_builtin; refine append_int rfl _ _ rfl w4 w1.heap.size u2 acc (Gl.fold (gi L i)) rfl hown4 rfl (by omega) (by omega) ?_; intro v' w5 hown5 hb5 hg5)
          go_roundw
          case rel => exact ⟨i + 1, acc ++ [Gl.fold (gi L i)], by go_num, by omega, hown5, by show _ = _; rw [HS.out, hacc.out], by simp; omega, (hbw.trans (hb14.mono hsz)).trans hb5⟩
          case measure => simp [intOf]; omega
    · have HF : Hid (Nm.key s.data.toList = acc) := Lib.hid (by rw [HK.out, ← key_end (i := i) (by rw [HN.out]; omega), hacc.out])
      go_wp2_with fail
      go_ret2
      exact ⟨hb0r, _, by rw [HF.out]; exact hown.mono hb1.size, by rw [HC.out]; rfl⟩
end Go.Proofs.YtlcjfphhogcenaaDoor
