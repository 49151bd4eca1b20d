/-
  Walks of layer 7: read, Check.
-/
import Derived.Test.YtlcjfphhogcenaaDoorGlyphQ
import Derived.Test.YtlcjfphhogcenaaDoorPlainN
import Derived.Test.YtlcjfphhogcenaaDoorShelf
import Derived.Test.YtlcjfphhogcenaaDoorGlyphR
set_option linter.unusedVariables false
set_option linter.unusedSimpArgs false
namespace Go.Proofs.YtlcjfphhogcenaaDoor
open Go.RowKit

/-- The library's package variable holds some integer. -/
def MaxOk (w : World) : Prop := ∃ m, w.cell? ⟨1, 0, none⟩ = some (.int .i64 m)
theorem MaxOk.lt {w : World} (h : MaxOk w) : 1 < w.heap.size := by
  obtain ⟨m, h⟩ := h
  simp only [World.cell?] at h
  split at h
  · rename_i hb
    exact (Array.getElem?_eq_some_iff.1 hb).1
  · cases h
theorem MaxOk.below {w w' : World} {B : Nat} (h : MaxOk w) (hb : Below B w w') (hB : w.heap.size ≤ B) : MaxOk w' := by
  have hl := h.lt
  obtain ⟨m, h⟩ := h
  exact ⟨m, (hb.cell (p := ⟨1, 0, none⟩) (by show 1 < B; omega)).trans h⟩

theorem str_toList (s : ByteArray) : s.toList = s.data.toList := by simp [ByteArray.toList_eq]
theorem byte_32 (b : UInt8) : ((b.toNat : Int) == 32) = (some b == some 32) := by
  rw [Bool.eq_iff_iff]
  simp
  constructor
  · intro h; exact UInt8.toNat_inj.1 (by simpa using (by omega : b.toNat = 32))
  · rintro rfl; rfl
theorem byte_first (s : ByteArray) (h : 0 < s.size) : (((s[0]'h).toNat : Int) == 32) = (s.data.toList.head? == some 32) := by
  have e : s.data.toList.head? = some s[0] := by
    rw [List.head?_eq_getElem?]
    have h' : 0 < s.data.toList.length := h
    rw [List.getElem?_eq_getElem h']
    rfl
  rw [e, byte_32]
theorem byte_last (s : ByteArray) (h : 0 < s.size) : (((s[s.size - 1]'(by omega)).toNat : Int) == 32) = (s.data.toList.getLast? == some 32) := by
  have e : s.data.toList.getLast? = some (s[s.size - 1]'(by omega)) := by
    rw [List.getLast?_eq_getElem?]
    have h' : s.size - 1 < s.data.toList.length := by show s.size - 1 < s.size; omega
    rw [show s.data.toList.length - 1 = s.size - 1 from rfl, List.getElem?_eq_getElem h']
    rfl
  rw [e, byte_32]
/-- A list and an error, the list the call's own. -/
def KeyPost (L : List Int) (er : Int) (w : World) (e : Ending) (w' : World) : Prop :=
  Below w.heap.size w w' ∧ ∃ v, OI w' w.heap.size v L ∧ e = .returned (.tuple #[v, .int .i64 er])

theorem KeyPost.err {L : List Int} {er er' : Int} {w w' : World} (hb : Below w.heap.size w w') (h1 : L = []) (h2 : er = er') : KeyPost L er w (.returned (.tuple #[.slice none 0 0, .int .i64 er'])) w' := by
  subst h1
  subst h2
  exact ⟨hb, _, OI.nil _ _, rfl⟩
theorem Nm.check_empty : Nm.check [] = 14 := rfl
theorem Nm.check_long {l : List UInt8} (h : 40 < l.length) : Nm.check l = 3 := by
  unfold Nm.check
  rw [if_neg (by intro e; rw [e] at h; simp at h), if_pos h]
theorem Nm.check_none {l : List UInt8} (h1 : l ≠ []) (h2 : l.length ≤ 40) (h : Gl.decode l = none) : Nm.check l = 4 := by
  unfold Nm.check
  rw [if_neg h1, if_neg (by omega), h]
theorem Nm.check_some {l : List UInt8} {L : List Int} (h1 : l ≠ []) (h2 : l.length ≤ 40) (h : Gl.decode l = some L) : Nm.check l = if Nm.blanks L || Nm.common L then 14 else 0 := by
  unfold Nm.check
  rw [if_neg h1, if_neg (by omega), h]
theorem Nm.read_err {l : List UInt8} (h : Nm.check l ≠ 0) : Nm.read l = [] := by unfold Nm.read; rw [if_neg h]

theorem contains_k (s : ByteArray) (m : Int) (w : World) (hs : s.size < 4294967281) (hm : w.cell? ⟨1, 0, none⟩ = some (.int .i64 m)) :
    Calls Tryd.prog 80 #[.string s, .string ⟨#[32, 32]⟩] w fun e w' => e = .returned (.bool (Lib.contains s.data.toList [32, 32])) ∧ w = w' :=
  (Tryd.strings_Contains s _ m w hs hm).mono fun _ _ h => ⟨h.1, h.2.symm⟩

set_option maxHeartbeats 4000000 in
theorem read_any (s : ByteArray) (w : World) (ht : Gl.Tab w) (hm : MaxOk w) (hs : s.size ≤ 1000000000000) :
    Calls Tryd.prog 62 #[.string s] w (KeyPost (Nm.read s.data.toList) (Nm.check s.data.toList) w) := by
  go_enter Tryd.func62, Tryd.ntmps62
  by_cases h0 : s = ⟨#[]⟩
  · subst h0
    go_wp2_with fail
    go_ret2
    exact ⟨Below.refl _ _, _, OI.nil _ _, rfl⟩
  have h0d : s.data.toList ≠ [] := fun e => h0 (by cases s with | mk d => simp at e; subst e; rfl)
  have h0s : s.size ≠ 0 := fun e => h0d (List.length_eq_zero_iff.1 e)
  have h0b : s.toList.isEmpty = false := by rw [str_toList]; simpa using h0d
  by_cases hl : 40 < s.size
  · go_wp2_with fail
    go_ret2
    have e : Nm.check s.data.toList = 3 := Nm.check_long (by simpa using hl)
    exact KeyPost.err (Below.refl _ _) (Nm.read_err (by rw [e]; decide)) e
  go_wp2_with (go_at_call 19; refine (gdecode_any _ _ ht (by omega)).mono ?_)
  intro e w1 hp1
  obtain ⟨hb1, v1, ho1, rfl⟩ := hp1.form
  have ht1 := ht.below hb1 (Nat.le_refl _)
  have hm1 := hm.below hb1 (Nat.le_refl _)
  have hl2 : s.data.toList.length ≤ 40 := by show s.size ≤ 40; omega
  obtain ⟨o1, e1⟩ : ∃ o, Gl.decode s.data.toList = o := ⟨_, rfl⟩
  have E1 := Lib.hid e1
  rw [e1] at ho1
  rw [e1]
  clear e1 hp1
  cases o1 with
  | none =>
    rw [errOf_none]
    have hck := Nm.check_none h0d hl2 E1.out
    go_wp2_with fail
    go_ret2
    exact KeyPost.err hb1 (Nm.read_err (by rw [hck]; decide)) hck
  | some L =>
  rw [errOf_some]
  replace ho1 : OI w1 w.heap.size v1 L := ho1
  obtain ⟨nL, hnL⟩ : ∃ n, L.length = n := ⟨_, rfl⟩
  obtain ⟨A1, c1, rfl, _, hR1, _⟩ := ho1.form_n hnL
  have hck := Nm.check_some h0d hl2 E1.out
  obtain ⟨hv, hu⟩ := (Gl.decode_iff _ _).1 E1.out
  have hbl := Nm.blanks_units hv
  rw [← hu] at hbl
  clear hu
  obtain ⟨m, hmm⟩ := hm1
  have hsz : s.size < 4294967281 := by omega
  have hp0 : 0 < s.size := by omega
  have hn40 : nL ≤ 40 := by rw [← hnL]; have := Gl.decode_len s.data.toList; rw [E1.out] at this; exact Nat.le_trans this hl2
  have f0 : (((s[0]'hp0).toNat : Int) == 32) = (s.data.toList.head? == some 32) := byte_first s hp0
  have f1 : (((s[s.size - 1]'(by omega)).toNat : Int) == 32) = (s.data.toList.getLast? == some 32) := byte_last s hp0
  rcases Bool.eq_false_or_eq_true (s.data.toList.head? == some 32) with g0 | g0
  · have f0' := f0.trans g0
    have hB : Nm.check s.data.toList = 14 := by rw [hck, hbl, g0]; rfl
    clear f0 f1 hck hbl
    go_wp2_with fail
    go_ret2
    exact KeyPost.err hb1 (Nm.read_err (by rw [hB]; decide)) hB
  have f0' := f0.trans g0
  rcases Bool.eq_false_or_eq_true (s.data.toList.getLast? == some 32) with g1 | g1
  · have f1' := f1.trans g1
    have hB : Nm.check s.data.toList = 14 := by rw [hck, hbl, g0, g1]; rfl
    clear f0 f1 hck hbl
    go_wp2_with fail
    go_ret2
    exact KeyPost.err hb1 (Nm.read_err (by rw [hB]; decide)) hB
  have f1' := f1.trans g1
  clear f0 f1
  rcases Bool.eq_false_or_eq_true (Lib.contains s.data.toList [32, 32]) with g2 | g2
  · have hB : Nm.check s.data.toList = 14 := by rw [hck, hbl, g0, g1, g2]; rfl
    clear hck hbl
    go_wp2_with (go_at_call 80; refine (contains_k s m _ hsz hmm).mono ?_; first | rintro e w' rfl rfl | rintro e w' ⟨rfl, rfl⟩)
    go_ret2
    exact KeyPost.err hb1 (Nm.read_err (by rw [hB]; decide)) hB
  have hck2 : Nm.check s.data.toList = if Nm.common L then 14 else 0 := by rw [hck, hbl, g0, g1, g2]; rfl
  have HCK := Lib.hid hck2
  clear hck hbl hck2
  go_wp2_with (go_at_call 80; refine (contains_k s m _ hsz hmm).mono ?_; first | rintro e w' rfl rfl | rintro e w' ⟨rfl, rfl⟩)
  go_loopw [2, 5, 36] (fun lv rv iv wr => ∃ i : Nat, lv = .slice A1 nL c1 ∧ iv = .int .i64 i ∧ i ≤ nL ∧ Hid (∀ k, k < i → Gl.script (gi L k) = 0) ∧ Below w1.heap.size w1 wr) (fun _ _ iv _ => nL - (intOf iv).toNat)
  case atStart => exact ⟨0, rfl, rfl, by omega, fun k hk => absurd hk (by omega), Below.refl _ _⟩
  case round =>
    obtain ⟨i, rfl, rfl, hi, hall, hbw⟩ := hrel
    by_cases hlt : i < nL
    · obtain ⟨b1, o1, rfl, hbb1, hc1⟩ := hR1 i (by omega)
      have c1 := (hbw.cell (p := ⟨b1, o1 + i, none⟩) hbb1).trans (hc1 i (by omega))
      clear hc1
      have htr := ht1.below hbw (Nat.le_refl _)
      have hbr : Below w.heap.size w wr := hb1.trans (hbw.mono hb1.size)
      by_cases hsc : Gl.script (gi L i) = 0
      · have hsb : (Gl.script (gi L i) != 0) = false := by simp [hsc]
        have HS := Lib.hid hsc
        clear hsc
        go_wp2_with (go_at_call 25; refine (gscript_any _ _ htr).mono ?_; first | rintro e w2 rfl hb2 | rintro e w2 ⟨rfl, hb2⟩)
        go_roundw
        case rel => exact ⟨i + 1, rfl, by go_num, by omega, fun k hk => (Nat.lt_or_eq_of_le (Nat.le_of_lt_succ hk)).elim (hall.out k) (fun e => by rw [e]; exact HS.out), hbw.trans (hb2.mono hbw.size)⟩
        case measure => simp [intOf]; omega
      · have hsb : (Gl.script (gi L i) != 0) = true := by simp [hsc]
        have hcm : Nm.common L = false := by
          unfold Nm.common
          rw [List.all_eq_false]
          have hlt' : i < L.length := by omega
          refine ⟨L[i], List.getElem_mem hlt', ?_⟩
          rw [← gi_eq hlt']
          simpa using hsc
        have hK : Nm.check s.data.toList = 0 := by rw [HCK.out, hcm]; rfl
        have hRd : Nm.read s.data.toList = L := by unfold Nm.read; rw [if_pos hK, E1.out]; rfl
        have HK := Lib.hid hK
        have HR := Lib.hid hRd
        clear hK hRd hcm
        go_wp2_with (go_at_call 25; refine (gscript_any _ _ htr).mono ?_; first | rintro e w2 rfl hb2 | rintro e w2 ⟨rfl, hb2⟩)
        go_ret2
        exact ⟨hbr.trans (hb2.mono hbr.size), _, by rw [HR.out]; exact ho1.below (hbw.trans (hb2.mono hbw.size)) (Nat.le_refl _), by rw [HK.out]; rfl⟩
    · have hcm : Nm.common L = true := by
        unfold Nm.common
        rw [List.all_eq_true]
        intro x hx
        obtain ⟨k, hk, rfl⟩ := List.mem_iff_getElem.1 hx
        have := hall.out k (by omega)
        rw [gi_eq hk] at this
        simpa using this
      have hK : Nm.check s.data.toList = 14 := by rw [HCK.out, hcm]; rfl
      go_wp2_with fail
      go_ret2
      exact KeyPost.err (hb1.trans (hbw.mono hb1.size)) (Nm.read_err (by rw [hK]; decide)) hK
end Go.Proofs.YtlcjfphhogcenaaDoor
