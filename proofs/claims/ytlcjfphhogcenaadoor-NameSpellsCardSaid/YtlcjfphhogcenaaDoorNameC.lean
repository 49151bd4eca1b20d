/-
  Walks of layer 7: Check of the reference; Key of the program and of the reference.
-/
import Derived.Test.YtlcjfphhogcenaaDoorNameB
set_option linter.unusedVariables false
set_option linter.unusedSimpArgs false
namespace Go.Proofs.YtlcjfphhogcenaaDoor
open Go.RowKit

theorem Nm.read_ok {l : List UInt8} (h : Nm.check l = 0) : Gl.decode l = some (Nm.read l) ∧ (∀ x ∈ Nm.read l, 0 ≤ Gl.script x) ∧ (Nm.read l).length ≤ 40 := by
  have h0 : l ≠ [] := fun e => by rw [e] at h; exact absurd h (by decide)
  have h1 : l.length ≤ 40 := Nat.le_of_not_lt fun e => by rw [Nm.check_long e] at h; exact absurd h (by decide)
  cases hd : Gl.decode l with
  | none => rw [Nm.check_none h0 h1 hd] at h; exact absurd h (by decide)
  | some L =>
    have e : Nm.read l = L := by unfold Nm.read; rw [if_pos h, hd]; rfl
    rw [e]
    obtain ⟨hv, hu⟩ := (Gl.decode_iff l L).1 hd
    refine ⟨rfl, fun x hx => ?_, ?_⟩
    · have := List.all_eq_true.1 hv x hx
      simpa using this
    · have := (Gl.units_len L).1
      rw [← hu] at this
      omega
theorem Nm.dec_ne {l : List UInt8} {L : List Int} (h : Gl.decode l = some L) (h0 : l ≠ []) : 0 < L.length := by
  obtain ⟨_, hu⟩ := (Gl.decode_iff l L).1 h
  cases L with
  | nil => exact absurd hu (by simpa [Gl.units] using h0)
  | cons x t => simp

set_option maxHeartbeats 4000000 in
theorem rcheck_any (s : ByteArray) (w : World) (hs : s.size ≤ 1000000000000) :
    Calls Tryd.prog 39 #[.string s] w fun e w' => e = .returned (.int .i64 (Nm.check s.data.toList)) ∧ Below w.heap.size w w' := by
  go_enter Tryd.func39, Tryd.ntmps39
  by_cases h0 : s = ⟨#[]⟩
  · subst h0
    go_wp2_with fail
    go_ret
    exact ⟨rfl, Below.refl _ _⟩
  have h0d : s.data.toList ≠ [] := fun e => h0 (by cases s with | mk d => simp at e; subst e; rfl)
  have h0b : s.toList.isEmpty = false := by rw [str_toList]; simpa using h0d
  by_cases hl : 40 < s.size
  · go_wp2_with fail
    go_ret
    exact ⟨ret_int (Nm.check_long (by simpa using hl)).symm, Below.refl _ _⟩
  go_wp2_with (go_at_call 20; refine (rdecode_any _ _ (by omega)).mono ?_)
  intro e w1 hp1
  obtain ⟨hb1, v1, ho1, rfl⟩ := hp1.form
  have hl2 : s.data.toList.length ≤ 40 := by show s.size ≤ 40; omega
  obtain ⟨o1, e1⟩ : ∃ o, Gl.decode s.data.toList = o := ⟨_, rfl⟩
  have E1 := Lib.hid e1
  rw [e1] at ho1
  rw [e1]
  clear e1 hp1
  cases o1 with
  | none =>
    rw [errOf_none]
    have hck := Nm.check_none h0d hl2 E1.out
    go_wp2_with fail
    go_ret
    exact ⟨ret_int hck.symm, hb1⟩
  | some L =>
  rw [errOf_some]
  replace ho1 : OI w1 w.heap.size v1 L := ho1
  have hn40 : L.length ≤ 40 := by have := Gl.decode_len s.data.toList; rw [E1.out] at this; exact Nat.le_trans this hl2
  have hpos := Nm.dec_ne E1.out h0d
  have hck := Nm.check_some h0d hl2 E1.out
  obtain ⟨nL, hnL⟩ : ∃ n, L.length = n := ⟨_, rfl⟩
  rw [hnL] at hn40 hpos
  obtain ⟨A1, c1, rfl, _, hR1, _⟩ := ho1.form_n hnL
  have hne : ((nL : Int) == 0) = false := by simp; omega
  have HN := Lib.hid hnL
  clear hnL
  rcases Bool.eq_false_or_eq_true (Nm.blanks L) with g | g
  · have hck2 : Nm.check s.data.toList = 14 := by rw [hck, g]; rfl
    clear hck
    go_wp2_with (go_at_call 64; refine (rblanks_any _ _ nL L _ HN.out hR1 (by omega) (by omega)).mono ?_; first | rintro e w' rfl rfl | rintro e w' ⟨rfl, rfl⟩)
    go_ret
    exact ⟨ret_int hck2.symm, hb1⟩
  rcases Bool.eq_false_or_eq_true (Nm.common L) with g2 | g2
  · have hck2 : Nm.check s.data.toList = 14 := by rw [hck, g, g2]; rfl
    clear hck
    go_wp2_with (first | (go_at_call 64; refine (rblanks_any _ _ nL L _ HN.out hR1 (by omega) (by omega)).mono ?_; first | rintro e w' rfl rfl | rintro e w' ⟨rfl, rfl⟩) | (go_at_call 65; refine (rcommon_any _ _ nL L _ HN.out hR1 (by omega)).mono ?_; first | rintro e w' rfl rfl | rintro e w' ⟨rfl, rfl⟩))
    go_ret
    exact ⟨ret_int hck2.symm, hb1⟩
  have hck2 : Nm.check s.data.toList = 0 := by rw [hck, g, g2]; rfl
  clear hck
  go_wp2_with (first | (go_at_call 64; refine (rblanks_any _ _ nL L _ HN.out hR1 (by omega) (by omega)).mono ?_; first | rintro e w' rfl rfl | rintro e w' ⟨rfl, rfl⟩) | (go_at_call 65; refine (rcommon_any _ _ nL L _ HN.out hR1 (by omega)).mono ?_; first | rintro e w' rfl rfl | rintro e w' ⟨rfl, rfl⟩))
  go_ret
  exact ⟨ret_int hck2.symm, hb1⟩

/-! the key -/
theorem OI.fresh (w : World) {B : Nat} (hB : B ≤ w.heap.size) : OI (w.alloc (.cells #[] 3)) B (.slice (some ⟨w.heap.size, 0, none⟩) 0 0) [] :=
  OI.of_blk (xs := []) (sp := []) (cap := 0) (heap_alloc_new w _) hB (by unfold maxLen; omega) rfl
theorem key_skip {L : List Int} {i : Nat} (h : i < L.length) (hm : Nm.mark (gi L i) = true) : Nm.keyOf (L.take (i + 1)) = Nm.keyOf (L.take i) := by
  rw [take_gi h]; simp [Nm.keyOf, hm]
theorem key_take {L : List Int} {i : Nat} (h : i < L.length) (hm : Nm.mark (gi L i) = false) : Nm.keyOf (L.take (i + 1)) = Nm.keyOf (L.take i) ++ [Gl.fold (gi L i)] := by
  rw [take_gi h]; simp [Nm.keyOf, hm]
theorem key_end {L : List Int} {i : Nat} (h : L.length ≤ i) : Nm.keyOf (L.take i) = Nm.keyOf L := by rw [List.take_of_length_le h]

set_option maxHeartbeats 4000000 in
theorem rkey_any (s : ByteArray) (w : World) (hs : s.size ≤ 1000000000000) :
    Calls Tryd.prog 37 #[.string s] w (KeyPost (Nm.key s.data.toList) (Nm.check s.data.toList) w) := by
  go_enter Tryd.func37, Tryd.ntmps37
  go_wp2_with (go_at_call 39; refine (rcheck_any _ _ hs).mono ?_)
  first | rintro e w1 rfl hb1 | rintro e w1 ⟨rfl, hb1⟩
  by_cases hc0 : Nm.check s.data.toList = 0
  rotate_left
  · have hcb : (Nm.check s.data.toList != 0) = true := by simp [hc0]
    have hk : Nm.key s.data.toList = [] := by unfold Nm.key; rw [Nm.read_err hc0]; rfl
    go_wp2_with fail
    go_ret2
    exact KeyPost.err hb1 hk rfl
  obtain ⟨hd, hv, h40⟩ := Nm.read_ok hc0
  obtain ⟨L, hL⟩ : ∃ L, Nm.read s.data.toList = L := ⟨_, rfl⟩
  have HK : Hid (Nm.key s.data.toList = Nm.keyOf L) := Lib.hid (by unfold Nm.key; rw [hL])
  have HC := Lib.hid hc0
  rw [hL] at hd hv h40
  rw [hc0]
  clear hL hc0
  go_wp2_with (go_at_call 20; refine (rdecode_any _ _ (by omega)).mono ?_)
  intro e w2 hp2
  obtain ⟨hb2, v2, ho2, rfl⟩ := hp2.form
  rw [hd] at ho2 ⊢
  rw [errOf_some]
  replace ho2 : OI w2 w1.heap.size v2 L := ho2
  have hb02 : Below w.heap.size w w2 := hb1.trans (hb2.mono hb1.size)
  obtain ⟨nL, hnL⟩ : ∃ n, L.length = n := ⟨_, rfl⟩
  rw [hnL] at h40
  obtain ⟨A1, c1, rfl, _, hR1, _⟩ := ho2.form_n hnL
  have HN := Lib.hid hnL
  have HV := Lib.hid hv
  clear hnL hv hd hp2
  go_wp2_with fail
  go_loopw [7, 8] (fun v iv wr => ∃ (i : Nat) (acc : List Int), iv = .int .i64 i ∧ i ≤ nL ∧ OI wr w2.heap.size v acc ∧ Hid (Nm.keyOf (L.take i) = acc) ∧ acc.length ≤ i ∧ Below w2.heap.size w2 wr) (fun _ iv _ => nL - (intOf iv).toNat)
  case atStart => exact ⟨0, [], rfl, by omega, OI.fresh _ (Nat.le_refl _), rfl, by simp, (Below.refl _ _).alloc (Nat.le_refl _) _⟩
  case round =>
    obtain ⟨i, acc, rfl, hi, hown, hacc, hal, hbw⟩ := hrel
    have hsz := hbw.size
    have hb0r : Below w.heap.size w wr := hb02.trans (hbw.mono hb02.size)
    by_cases hlt : i < nL
    · have hltL : i < L.length := by rw [HN.out]; exact hlt
      obtain ⟨b1, o1, rfl, hbb1, hc1⟩ := hR1 i hltL
      have cc := (hbw.cell (p := ⟨b1, o1 + i, none⟩) hbb1).trans (hc1 i hltL)
      have hsc : 0 ≤ Gl.script (gi L i) := by rw [gi_eq hltL]; exact HV.out _ (List.getElem_mem hltL)
      have hrg := Gl.script_bounds hsc
      clear hc1 hsc
      rcases Bool.eq_false_or_eq_true (Nm.mark (gi L i)) with hmk | hmk
      · have HS := Lib.hid (key_skip hltL hmk)
        clear hltL
        go_wp2_with (go_at_call 63; refine (rmark_any _ _).mono ?_; first | rintro e w' rfl rfl | rintro e w' ⟨rfl, rfl⟩)
        go_roundw
        case rel => exact ⟨i + 1, acc, by go_num, by omega, hown, by show _ = _; rw [HS.out, hacc.out], by omega, hbw⟩
        case measure => simp [intOf]; omega
      · have HS := Lib.hid (key_take hltL hmk)
        clear hltL
        go_wp2_with (first | (go_at_call 63; refine (rmark_any _ _).mono ?_; first | rintro e w' rfl rfl | rintro e w' ⟨rfl, rfl⟩) | (go_at_call 30; refine (rfold_any _ _ (by omega) (by omega)).mono ?_; first | rintro e w' rfl rfl | rintro e w' ⟨rfl, rfl⟩) | (at_builtin; refine append_int rfl _ _ rfl wr w2.heap.size u7 acc (Gl.fold (gi L i)) rfl hown rfl (by omega) hsz ?_; intro v' w3 hown3 hb3 hg3))
        go_roundw
        case rel => exact ⟨i + 1, acc ++ [Gl.fold (gi L i)], by go_num, by omega, hown3, by show _ = _; rw [HS.out, hacc.out], by simp; omega, hbw.trans hb3⟩
        case measure => simp [intOf]; omega
    · have HF : Hid (Nm.key s.data.toList = acc) := Lib.hid (by rw [HK.out, ← key_end (i := i) (by rw [HN.out]; omega), hacc.out])
      go_wp2_with fail
      go_ret2
      exact ⟨hb0r, _, by rw [HF.out]; exact hown.mono hb02.size, by rw [HC.out]; rfl⟩
end Go.Proofs.YtlcjfphhogcenaaDoor
