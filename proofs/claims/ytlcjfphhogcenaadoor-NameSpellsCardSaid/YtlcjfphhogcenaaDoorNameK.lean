/-
  Walks of layer 7: Width of the program and of the reference.
-/
import Derived.Test.YtlcjfphhogcenaaDoorNameJ
set_option linter.unusedVariables false
set_option linter.unusedSimpArgs false
namespace Go.Proofs.YtlcjfphhogcenaaDoor
open Go.RowKit

/-- The sum of the widths. -/
def Nm.sumW (L : List Int) (h : Int) : Int := (L.map fun r => Gl.width r h).sum
def Nm.widthE (l : List UInt8) (h : Int) : Int := if Nm.check l ≠ 0 then Nm.check l else if h < 1 ∨ 64 < h then 2 else 0
def Nm.width (l : List UInt8) (h : Int) : Int := if Nm.widthE l h = 0 then Nm.sumW (Nm.read l) h else 0
theorem Nm.sumW_take {L : List Int} {i : Nat} (h : Int) (hi : i < L.length) : Nm.sumW (L.take (i + 1)) h = Nm.sumW (L.take i) h + Gl.width (gi L i) h := by
  rw [take_gi hi]; simp [Nm.sumW]
theorem Nm.sumW_all {L : List Int} {i : Nat} (h : Int) (hi : L.length ≤ i) : Nm.sumW (L.take i) h = Nm.sumW L h := by rw [List.take_of_length_le hi]
theorem Nm.width_bd (r h : Int) : 0 ≤ Gl.width r h ∧ Gl.width r h ≤ 64 := by
  unfold Gl.width
  split
  · omega
  · split
    · omega
    · split <;> omega
theorem Nm.sumW_bd (h : Int) : ∀ L : List Int, 0 ≤ Nm.sumW L h ∧ Nm.sumW L h ≤ 64 * L.length
  | [] => by simp [Nm.sumW]
  | r :: L => by
    have := Nm.sumW_bd h L
    have := Nm.width_bd r h
    simp only [Nm.sumW, List.map_cons, List.sum_cons, List.length_cons] at *
    omega
/-- A number and an error. -/
def TwoPost (a b : Int) (w : World) (e : Ending) (w' : World) : Prop := e = .returned (.tuple #[.int .i64 a, .int .i64 b]) ∧ Below w.heap.size w w'
theorem TwoPost.mk {a b a' b' : Int} {w w' : World} (h1 : a = a') (h2 : b = b') (hb : Below w.heap.size w w') : TwoPost a b w (.returned (.tuple #[.int .i64 a', .int .i64 b'])) w' := by
  subst h1; subst h2; exact ⟨rfl, hb⟩

set_option maxHeartbeats 4000000 in
theorem nwidth_any (s : ByteArray) (h : Int) (w : World) (ht : Gl.Tab w) (hm : MaxOk w) (hs : s.size ≤ 1000000000000) :
    Calls Tryd.prog 45 #[.string s, .int .i64 h] w (TwoPost (Nm.width s.data.toList h) (Nm.widthE s.data.toList h) w) := by
  go_enter Tryd.func45, Tryd.ntmps45
  go_wp2_with (go_at_call 62; refine (read_any _ _ ht hm hs).mono ?_)
  rintro e w1 ⟨hb1, v1, ho1, rfl⟩
  by_cases hc0 : Nm.check s.data.toList = 0
  rotate_left
  · have hcb : (Nm.check s.data.toList != 0) = true := by simp [hc0]
    have HE : Hid (Nm.widthE s.data.toList h = Nm.check s.data.toList) := Lib.hid (by unfold Nm.widthE; rw [if_pos hc0])
    have HW : Hid (Nm.width s.data.toList h = 0) := Lib.hid (by unfold Nm.width; rw [HE.out, if_neg hc0])
    clear hc0
    go_wp2_with fail
    go_ret2
    exact TwoPost.mk HW.out HE.out hb1
  by_cases hr : h < 1 ∨ 64 < h
  · have HE : Hid (Nm.widthE s.data.toList h = 2) := Lib.hid (by unfold Nm.widthE; rw [if_neg (by rw [hc0]; simp), if_pos hr])
    have HW : Hid (Nm.width s.data.toList h = 0) := Lib.hid (by unfold Nm.width; rw [HE.out]; rfl)
    rw [hc0]
    clear hc0
    rcases hr with hr | hr
    · go_wp2_with fail
      go_ret2
      exact TwoPost.mk HW.out HE.out hb1
    · go_wp2_with fail
      go_ret2
      exact TwoPost.mk HW.out HE.out hb1
  have hr1 : 1 ≤ h := by omega
  have hr2 : h ≤ 64 := by omega
  have HE : Hid (Nm.widthE s.data.toList h = 0) := Lib.hid (by unfold Nm.widthE; rw [if_neg (by rw [hc0]; simp), if_neg hr])
  obtain ⟨hd, hv, h40⟩ := Nm.read_ok hc0
  obtain ⟨L, hL⟩ : ∃ L, Nm.read s.data.toList = L := ⟨_, rfl⟩
  have HW : Hid (Nm.width s.data.toList h = Nm.sumW L h) := Lib.hid (by unfold Nm.width; rw [if_pos HE.out, hL])
  rw [hL] at h40 ho1
  rw [hc0]
  clear hL hc0 hd hv hr
  obtain ⟨nL, hnL⟩ : ∃ n, L.length = n := ⟨_, rfl⟩
  rw [hnL] at h40
  obtain ⟨A1, c1, rfl, _, hR1, _⟩ := ho1.form_n hnL
  have HN := Lib.hid hnL
  clear hnL
  go_wp2_with fail
  go_loopw [4, 8, 25] (fun wv rv iv wr => ∃ (i : Nat) (q : Int), iv = .int .i64 i ∧ wv = .int .i64 q ∧ i ≤ nL ∧ Hid (Nm.sumW (L.take i) h = q) ∧ 0 ≤ q ∧ q ≤ 64 * i ∧ Below w1.heap.size w1 wr) (fun _ _ iv _ => nL - (intOf iv).toNat)
  case atStart => exact ⟨0, 0, rfl, rfl, by omega, rfl, by omega, by omega, Below.refl _ _⟩
  case round =>
    obtain ⟨i, q, rfl, rfl, hi, hq, hq0, hq1, hbw⟩ := hrel
    have hb0r : Below w.heap.size w wr := hb1.trans (hbw.mono hb1.size)
    by_cases hlt : i < nL
    · have hltL : i < L.length := by rw [HN.out]; exact hlt
      obtain ⟨b1, o1, rfl, hbb1, hc1⟩ := hR1 i hltL
      have cc := (hbw.cell (p := ⟨b1, o1 + i, none⟩) hbb1).trans (hc1 i hltL)
      have htr := (ht.below hb1 (Nat.le_refl _)).below hbw (Nat.le_refl _)
      have HS := Lib.hid (Nm.sumW_take h hltL)
      have hwb := Nm.width_bd (gi L i) h
      clear hc1 hltL
      go_wp2_with (go_at_call 27; refine (gwidth_any _ _ _ htr).mono ?_; first | rintro e w2 rfl hb2 | rintro e w2 ⟨rfl, hb2⟩)
      go_roundw
      case rel => exact ⟨i + 1, q + Gl.width (gi L i) h, by go_num, by go_num, by omega, by show _ = _; rw [HS.out, hq.out], by omega, by omega, hbw.trans (hb2.mono hbw.size)⟩
      case measure => simp [intOf]; omega
    · have HF : Hid (Nm.width s.data.toList h = q) := Lib.hid (by rw [HW.out, ← hq.out, Nm.sumW_all h (by rw [HN.out]; omega)])
      go_wp2_with fail
      go_ret2
      exact TwoPost.mk HF.out HE.out hb0r

set_option maxHeartbeats 4000000 in
theorem r7width_any (s : ByteArray) (h : Int) (w : World) (hs : s.size ≤ 1000000000000) :
    Calls Tryd.prog 46 #[.string s, .int .i64 h] w (TwoPost (Nm.width s.data.toList h) (Nm.widthE s.data.toList h) w) := by
  go_enter Tryd.func46, Tryd.ntmps46
  go_wp2_with (go_at_call 39; refine (rcheck_any _ _ hs).mono ?_)
  first | rintro e w1 rfl hb1 | rintro e w1 ⟨rfl, hb1⟩
  by_cases hc0 : Nm.check s.data.toList = 0
  rotate_left
  · have hcb : (Nm.check s.data.toList != 0) = true := by simp [hc0]
    have HE : Hid (Nm.widthE s.data.toList h = Nm.check s.data.toList) := Lib.hid (by unfold Nm.widthE; rw [if_pos hc0])
    have HW : Hid (Nm.width s.data.toList h = 0) := Lib.hid (by unfold Nm.width; rw [HE.out, if_neg hc0])
    clear hc0
    go_wp2_with fail
    go_ret2
    exact TwoPost.mk HW.out HE.out hb1
  by_cases hr : h < 1 ∨ 64 < h
  · have HE : Hid (Nm.widthE s.data.toList h = 2) := Lib.hid (by unfold Nm.widthE; rw [if_neg (by rw [hc0]; simp), if_pos hr])
    have HW : Hid (Nm.width s.data.toList h = 0) := Lib.hid (by unfold Nm.width; rw [HE.out]; rfl)
    rw [hc0]
    clear hc0
    rcases hr with hr | hr
    · go_wp2_with fail
      go_ret2
      exact TwoPost.mk HW.out HE.out hb1
    · go_wp2_with fail
      go_ret2
      exact TwoPost.mk HW.out HE.out hb1
  have hr1 : 1 ≤ h := by omega
  have hr2 : h ≤ 64 := by omega
  have HE : Hid (Nm.widthE s.data.toList h = 0) := Lib.hid (by unfold Nm.widthE; rw [if_neg (by rw [hc0]; simp), if_neg hr])
  obtain ⟨hd, hv, h40⟩ := Nm.read_ok hc0
  obtain ⟨L, hL⟩ : ∃ L, Nm.read s.data.toList = L := ⟨_, rfl⟩
  have HW : Hid (Nm.width s.data.toList h = Nm.sumW L h) := Lib.hid (by unfold Nm.width; rw [if_pos HE.out, hL])
  rw [hL] at h40 hd
  rw [hc0]
  have HD := Lib.hid hd
  clear hL hc0 hd hv hr
  go_wp2_with (go_at_call 20; refine (rdecode_any _ _ (by omega)).mono ?_)
  intro e w2 hp2
  obtain ⟨hb2, v2, ho2, rfl⟩ := hp2.form
  rw [HD.out] at ho2 ⊢
  rw [errOf_some]
  replace ho2 : OI w2 w1.heap.size v2 L := ho2
  have hb02 : Below w.heap.size w w2 := hb1.trans (hb2.mono hb1.size)
  obtain ⟨nL, hnL⟩ : ∃ n, L.length = n := ⟨_, rfl⟩
  rw [hnL] at h40
  obtain ⟨A1, c1, rfl, _, hR1, _⟩ := ho2.form_n hnL
  have HN := Lib.hid hnL
  clear hnL hp2
  go_wp2_with fail
  go_loopw [9, 10] (fun wv iv wr => ∃ (i : Nat) (q : Int), iv = .int .i64 i ∧ wv = .int .i64 q ∧ i ≤ nL ∧ Hid (Nm.sumW (L.take i) h = q) ∧ 0 ≤ q ∧ q ≤ 64 * i ∧ w2 = wr) (fun _ iv _ => nL - (intOf iv).toNat)
  case atStart => exact ⟨0, 0, rfl, rfl, by omega, rfl, by omega, by omega, rfl⟩
  case round =>
    obtain ⟨i, q, rfl, rfl, hi, hq, hq0, hq1, rfl⟩ := hrel
    by_cases hlt : i < nL
    · have hltL : i < L.length := by rw [HN.out]; exact hlt
      obtain ⟨b1, o1, rfl, hbb1, hc1⟩ := hR1 i hltL
      have cc := hc1 i hltL
      have HS := Lib.hid (Nm.sumW_take h hltL)
      have hwb := Nm.width_bd (gi L i) h
      clear hc1 hltL
      go_wp2_with (go_at_call 28; refine (rwidth_any _ _ _).mono ?_; first | rintro e w' rfl rfl | rintro e w' ⟨rfl, rfl⟩)
      go_roundw
      case rel => exact ⟨i + 1, q + Gl.width (gi L i) h, by go_num, by go_num, by omega, by show _ = _; rw [HS.out, hq.out], by omega, by omega, trivial⟩
      case measure => simp [intOf]; omega
    · have HF : Hid (Nm.width s.data.toList h = q) := Lib.hid (by rw [HW.out, ← hq.out, Nm.sumW_all h (by rw [HN.out]; omega)])
      go_wp2_with fail
      go_ret2
      exact TwoPost.mk HF.out HE.out hb02

theorem light_any (a b c : ByteArray) (w : World) (ha : a.size ≤ 9223372036854775807) (hb : b.size ≤ 9223372036854775807) (hc : c.size ≤ 9223372036854775807) :
    Calls Tryd.prog 34 #[.string a, .string b, .string c] w fun e w' => e = .returned (.bool (decide (a.size ≤ 200 ∧ b.size ≤ 200 ∧ c.size ≤ 200))) ∧ w = w' := by
  go_enter Tryd.func34, Tryd.ntmps34
  by_cases h1 : a.size ≤ 200
  · by_cases h2 : b.size ≤ 200
    · by_cases h3 : c.size ≤ 200
      · go_wp2_with fail
        go_ret
        exact ⟨ret_bool (by simp [h1, h2, h3]; omega), rfl⟩
      · go_wp2_with fail
        go_ret
        exact ⟨ret_bool (by simp [h3]; omega), rfl⟩
    · go_wp2_with fail
      go_ret
      exact ⟨ret_bool (by simp [h2]), rfl⟩
  · go_wp2_with fail
    go_ret
    exact ⟨ret_bool (by simp [h1]), rfl⟩
end Go.Proofs.YtlcjfphhogcenaaDoor
