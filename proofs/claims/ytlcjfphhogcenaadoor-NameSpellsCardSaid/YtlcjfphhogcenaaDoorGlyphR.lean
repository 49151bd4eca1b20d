/-
  Walks of the statements of layer 6: GlyphJoins and GlyphBack.
-/
import Derived.Test.YtlcjfphhogcenaaDoorGlyphQ
set_option linter.unusedVariables false
set_option linter.unusedSimpArgs false
namespace Go.Proofs.YtlcjfphhogcenaaDoor
open Go.RowKit

theorem errOf_some {α : Type} (x : α) : errOf (some x : Option α).isSome = 0 := rfl
theorem errOf_none {α : Type} : errOf (none : Option α).isSome = 4 := rfl
theorem Gl.decode_join {l m : List UInt8} {L M : List Int} (h1 : Gl.decode l = some L) (h2 : Gl.decode m = some M) : Gl.decode (l ++ m) = some (L ++ M) := by
  obtain ⟨v1, rfl⟩ := (Gl.decode_iff l L).1 h1
  obtain ⟨v2, rfl⟩ := (Gl.decode_iff m M).1 h2
  exact (Gl.decode_iff _ _).2 ⟨by rw [Gl.valid_append, v1, v2]; rfl, (Gl.units_append L M).symm⟩
theorem rsame_n (w : World) (A B : Option Addr) (ca cb n m : Nat) (xs ys : List Int) (hn : xs.length = n) (hm : ys.length = m) (hA : RI w A xs) (hB : RI w B ys) (hx : n ≤ 1000000000000000) :
    Calls Tryd.prog 21 #[.slice A n ca, .slice B m cb] w fun e w' => e = .returned (.bool (decide (xs = ys))) ∧ Below w.heap.size w w' := by
  subst hn
  subst hm
  exact rsame_any w A B ca cb xs ys hA hB hx
theorem str_join (s t : ByteArray) : (s ++ t).data.toList = s.data.toList ++ t.data.toList := by simp

set_option maxHeartbeats 4000000 in
theorem law_joins (s t : ByteArray) (w : World) (ht : Gl.Tab w) (hs : s.size + t.size ≤ 10000000000000) :
    Calls Tryd.prog 11 #[.string s, .string t] w fun e w' => e = .returned (.bool true) ∧ Below w.heap.size w w' := by
  go_enter Tryd.func11, Tryd.ntmps11
  go_wp2_with (go_at_call 19; refine (gdecode_any _ _ ht (by omega)).mono ?_)
  intro e w1 hp1
  obtain ⟨hb1, v1, ho1, rfl⟩ := hp1.form
  have ht1 := ht.below hb1 (Nat.le_refl _)
  go_wp2_with (go_at_call 19; refine (gdecode_any _ _ ht1 (by omega)).mono ?_)
  intro e w2 hp2
  obtain ⟨hb2, v2, ho2, rfl⟩ := hp2.form
  have ht2 := ht1.below hb2 (Nat.le_refl _)
  have hb02 : Below w.heap.size w w2 := hb1.trans (hb2.mono hb1.size)
  have ho12 := ho1.below hb2 (Nat.le_refl _)
  have ho22 := ho2.mono (B' := w.heap.size) hb1.size
  have HJ := Lib.hid (fun L M => @Gl.decode_join s.data.toList t.data.toList L M)
  have hl1 := Gl.decode_len s.data.toList
  have hl2 := Gl.decode_len t.data.toList
  clear hp1 hp2 ho1 ho2 hb1 hb2 ht1
  obtain ⟨o1, e1⟩ : ∃ o, Gl.decode s.data.toList = o := ⟨_, rfl⟩
  obtain ⟨o2, e2⟩ : ∃ o, Gl.decode t.data.toList = o := ⟨_, rfl⟩
  have E1 := Lib.hid e1
  have E2 := Lib.hid e2
  rw [e1] at ho12 hl1
  rw [e2] at ho22 hl2
  rw [e1, e2]
  clear e1 e2
  cases o1 with
  | none =>
    rw [errOf_none]
    go_wp2_with (go_at_call 22; refine (awake_any _ ht2).mono ?_)
    first | rintro e w5 rfl hb5 | rintro e w5 ⟨rfl, hb5⟩
    go_wp2_with fail
    go_ret
    exact ⟨rfl, hb02.trans (hb5.mono hb02.size)⟩
  | some L =>
  cases o2 with
  | none =>
    rw [errOf_some, errOf_none]
    go_wp2_with (go_at_call 22; refine (awake_any _ ht2).mono ?_)
    first | rintro e w5 rfl hb5 | rintro e w5 ⟨rfl, hb5⟩
    go_wp2_with fail
    go_ret
    exact ⟨rfl, hb02.trans (hb5.mono hb02.size)⟩
  | some M =>
  rw [errOf_some, errOf_some]
  have hd := HJ.out L M E1.out E2.out
  rw [← str_join] at hd
  have hL : L.length ≤ s.size := by simpa using hl1
  have hM : M.length ≤ t.size := by simpa using hl2
  clear hl1 hl2
  replace ho12 : OI w2 w.heap.size v1 L := ho12
  replace ho22 : OI w2 w.heap.size v2 M := ho22
  have hsz : (s ++ t).size ≤ 10000000000000 := by rw [ByteArray.size_append]; exact hs
  have HS := Lib.hid hsz
  clear hsz
  go_wp2_with (go_at_call 19; refine (gdecode_any _ _ ht2 HS.out).mono ?_)
  intro e w3 hp3
  obtain ⟨hb3, v3, ho3, rfl⟩ := hp3.form
  rw [hd] at ho3 ⊢
  replace ho3 : OI w3 w2.heap.size v3 (L ++ M) := ho3
  rw [errOf_some]
  have ht3 := ht2.below hb3 (Nat.le_refl _)
  have hb03 : Below w.heap.size w w3 := hb02.trans (hb3.mono hb02.size)
  have ho13 := ho12.below hb3 (Nat.le_refl _)
  have ho23 := ho22.below hb3 (Nat.le_refl _)
  obtain ⟨nL, hnL⟩ : ∃ n, L.length = n := ⟨_, rfl⟩
  obtain ⟨nM, hnM⟩ : ∃ n, M.length = n := ⟨_, rfl⟩
  obtain ⟨A1, c1, rfl, _, hR1, hz1⟩ := ho13.form_n hnL
  obtain ⟨A2, c2, rfl, _, hR2, hz2⟩ := ho23.form_n hnM
  have hq1 : ([] : List Int).length + L.length ≤ 10000000000000 := by simp; omega
  have hq2 : L.length + M.length ≤ 10000000000000 := by omega
  go_wp2_with (at_builtin; refine append_ints rfl _ _ rfl w3 w3.heap.size (.slice none 0 0) [] L _ _ rfl (OI.nil _ _) hR1 hz1 _ hnL.symm rfl hq1 (Nat.le_refl _) ?_)
  intro v4 w4 ho4 hb4 hg4
  try rw [List.nil_append] at ho4
  have hb04 : Below w.heap.size w w4 := hb03.trans (hb4.mono hb03.size)
  have hR24 := hR2.below hb4
  have ht4 := ht3.below hb4 (Nat.le_refl _)
  have ho34 := ho3.below hb4 (Nat.le_refl _)
  go_wp2_with (at_builtin; refine append_ints rfl _ _ rfl w4 w3.heap.size v4 L M _ _ rfl ho4 hR24 hz2 _ hnM.symm rfl hq2 hb4.size ?_)
  intro v5 w5 ho5 hb5 hg5
  have hb05 : Below w.heap.size w w5 := hb04.trans (hb5.mono hb03.size)
  have ht5 := ht3.below (hb4.trans hb5) (Nat.le_refl _)
  have ho35 := ho3.below (hb4.trans hb5) (Nat.le_refl _)
  obtain ⟨nS, hnS⟩ : ∃ n, (L ++ M).length = n := ⟨_, rfl⟩
  obtain ⟨A3, c3, rfl, _, hR3, _⟩ := ho35.form_n hnS
  obtain ⟨A5, c5, rfl, _, hR5, _⟩ := ho5.form_n hnS
  have hol : nS ≤ 1000000000000000 := by rw [← hnS, List.length_append]; omega
  have HNS := Lib.hid hnS
  clear hnS
  go_wp2_with (go_at_call 21; refine (rsame_n _ A3 A5 c3 c5 nS nS (L ++ M) (L ++ M) HNS.out HNS.out hR3 hR5 hol).mono ?_)
  first | rintro e w6 rfl hb6 | rintro e w6 ⟨rfl, hb6⟩
  have ht6 := ht5.below hb6 (Nat.le_refl _)
  have hb06 : Below w.heap.size w w6 := hb05.trans (hb6.mono hb05.size)
  try rw [decide_eq_true rfl]
  go_wp2_with (go_at_call 22; refine (awake_any _ ht6).mono ?_)
  first | rintro e w7 rfl hb7 | rintro e w7 ⟨rfl, hb7⟩
  go_wp2_with fail
  go_ret
  exact ⟨rfl, hb06.trans (hb7.mono hb06.size)⟩

theorem Gl.encode_of {l : List UInt8} {L : List Int} (h : Gl.decode l = some L) : Gl.encode L = some l := by
  obtain ⟨hv, rfl⟩ := (Gl.decode_iff l L).1 h
  simp [Gl.encode, hv]
theorem Gl.decode_of {l : List UInt8} {L : List Int} (h : Gl.encode L = some l) : Gl.decode l = some L := by
  unfold Gl.encode at h
  split at h
  · rename_i hv
    injection h with h
    exact (Gl.decode_iff l L).2 ⟨hv, h.symm⟩
  · cases h
theorem Gl.encode_len {l : List UInt8} {L : List Int} (h : Gl.encode L = some l) : l.length ≤ 3 * L.length := by
  obtain ⟨_, rfl⟩ := (Gl.decode_iff l L).1 (Gl.decode_of h)
  exact (Gl.units_len L).2

theorem back_str (s : ByteArray) : (⟨s.data.toList.toArray⟩ : ByteArray) = s := by simp

set_option maxHeartbeats 8000000 in
theorem law_back (s : ByteArray) (A : Option Addr) (c : Nat) (xs : List Int) (w : World) (ht : Gl.Tab w) (hs : s.size ≤ 1000000000000) (hA : RI w A xs) (hx : xs.length ≤ 1000000000000) :
    Calls Tryd.prog 5 #[.string s, .slice A xs.length c] w fun e w' => e = .returned (.bool true) ∧ Below w.heap.size w w' := by
  go_enter Tryd.func5, Tryd.ntmps5
  go_wp2_with (go_at_call 19; refine (gdecode_any _ _ ht (by omega)).mono ?_)
  intro e w1 hp1
  obtain ⟨hb1, v1, ho1, rfl⟩ := hp1.form
  have ht1 := ht.below hb1 (Nat.le_refl _)
  have hA1 := hA.below hb1
  have hl1 := Gl.decode_len s.data.toList
  obtain ⟨o1, e1⟩ : ∃ o, Gl.decode s.data.toList = o := ⟨_, rfl⟩
  have E1 := Lib.hid e1
  rw [e1] at ho1 hl1
  rw [e1]
  clear e1 hp1
  cases o1 with
  | none =>
    rw [errOf_none]
    go_wp2_with (go_at_call 23; refine (gencode_any _ _ _ _ ht1 hA1 (by omega)).mono ?_)
    intro e w3 hp3
    obtain ⟨rfl, hb3⟩ := hp3.form
    have ht3 := ht1.below hb3 (Nat.le_refl _)
    have hA3 := hA1.below hb3
    have hb03 : Below w.heap.size w w3 := hb1.trans (hb3.mono hb1.size)
    obtain ⟨o2, e2⟩ : ∃ o, Gl.encode xs = o := ⟨_, rfl⟩
    have E2 := Lib.hid e2
    rw [e2]
    clear e2 hp3
    cases o2 with
    | none =>
      rw [errOf_none]
      go_wp2_with (go_at_call 22; refine (awake_any _ ht3).mono ?_)
      first | rintro e w5 rfl hb5 | rintro e w5 ⟨rfl, hb5⟩
      go_wp2_with fail
      go_ret
      exact ⟨rfl, hb03.trans (hb5.mono hb03.size)⟩
    | some u =>
      rw [errOf_some, Option.getD_some]
      have hul := Gl.encode_len E2.out
      have hus : (⟨u.toArray⟩ : ByteArray).size ≤ 10000000000000 := by show u.toArray.size ≤ _; simp; omega
      have HU := Lib.hid hus
      have HD := Lib.hid (Gl.decode_of E2.out)
      clear hus hul
      go_wp2_with (go_at_call 19; refine (gdecode_any _ _ ht3 HU.out).mono ?_)
      intro e w4 hp4
      obtain ⟨hb4, v4, ho4, rfl⟩ := hp4.form
      rw [show Gl.decode ((⟨u.toArray⟩ : ByteArray).data.toList) = some xs from HD.out] at ho4 ⊢
      rw [errOf_some]
      replace ho4 : OI w4 w3.heap.size v4 xs := ho4
      have ht4 := ht3.below hb4 (Nat.le_refl _)
      have hA4 := hA3.below hb4
      have hb04 : Below w.heap.size w w4 := hb03.trans (hb4.mono hb03.size)
      obtain ⟨A4, c4, rfl, _, _, hR4⟩ := ho4.form
      go_wp2_with (go_at_call 21; refine (rsame_any _ _ _ _ _ _ _ hR4 hA4 (by omega)).mono ?_)
      first | rintro e w6 rfl hb6 | rintro e w6 ⟨rfl, hb6⟩
      have ht6 := ht4.below hb6 (Nat.le_refl _)
      have hb06 : Below w.heap.size w w6 := hb04.trans (hb6.mono hb04.size)
      try rw [decide_eq_true rfl]
      go_wp2_with (go_at_call 22; refine (awake_any _ ht6).mono ?_)
      first | rintro e w7 rfl hb7 | rintro e w7 ⟨rfl, hb7⟩
      go_wp2_with fail
      go_ret
      exact ⟨rfl, hb06.trans (hb7.mono hb06.size)⟩
  | some L =>
    rw [errOf_some]
    replace ho1 : OI w1 w.heap.size v1 L := ho1
    have hL : L.length ≤ s.size := by simpa using hl1
    clear hl1
    obtain ⟨A1, c1, rfl, _, _, hR1⟩ := ho1.form
    have hen := Gl.encode_of E1.out
    have HEN := Lib.hid hen
    clear hen
    go_wp2_with (go_at_call 23; refine (gencode_any _ _ _ _ ht1 hR1 (by omega)).mono ?_)
    intro e w2 hp2
    obtain ⟨rfl, hb2⟩ := hp2.form
    rw [HEN.out, errOf_some, Option.getD_some, back_str]
    have ht2 := ht1.below hb2 (Nat.le_refl _)
    have hA2 := hA1.below hb2
    have hb02 : Below w.heap.size w w2 := hb1.trans (hb2.mono hb1.size)
    clear hp2 hb2
    go_wp2_with (go_at_call 23; refine (gencode_any _ _ _ _ ht2 hA2 (by omega)).mono ?_)
    intro e w3 hp3
    obtain ⟨rfl, hb3⟩ := hp3.form
    have ht3 := ht2.below hb3 (Nat.le_refl _)
    have hA3 := hA2.below hb3
    have hb03 : Below w.heap.size w w3 := hb02.trans (hb3.mono hb02.size)
    obtain ⟨o2, e2⟩ : ∃ o, Gl.encode xs = o := ⟨_, rfl⟩
    have E2 := Lib.hid e2
    rw [e2]
    clear e2 hp3
    cases o2 with
    | none =>
      rw [errOf_none]
      go_wp2_with (go_at_call 22; refine (awake_any _ ht3).mono ?_)
      first | rintro e w5 rfl hb5 | rintro e w5 ⟨rfl, hb5⟩
      go_wp2_with fail
      go_ret
      exact ⟨rfl, hb03.trans (hb5.mono hb03.size)⟩
    | some u =>
      rw [errOf_some, Option.getD_some]
      have hul := Gl.encode_len E2.out
      have hus : (⟨u.toArray⟩ : ByteArray).size ≤ 10000000000000 := by show u.toArray.size ≤ _; simp; omega
      have HU := Lib.hid hus
      have HD := Lib.hid (Gl.decode_of E2.out)
      clear hus hul
      go_wp2_with (go_at_call 19; refine (gdecode_any _ _ ht3 HU.out).mono ?_)
      intro e w4 hp4
      obtain ⟨hb4, v4, ho4, rfl⟩ := hp4.form
      rw [show Gl.decode ((⟨u.toArray⟩ : ByteArray).data.toList) = some xs from HD.out] at ho4 ⊢
      rw [errOf_some]
      replace ho4 : OI w4 w3.heap.size v4 xs := ho4
      have ht4 := ht3.below hb4 (Nat.le_refl _)
      have hA4 := hA3.below hb4
      have hb04 : Below w.heap.size w w4 := hb03.trans (hb4.mono hb03.size)
      obtain ⟨A4, c4, rfl, _, _, hR4⟩ := ho4.form
      go_wp2_with (go_at_call 21; refine (rsame_any _ _ _ _ _ _ _ hR4 hA4 (by omega)).mono ?_)
      first | rintro e w6 rfl hb6 | rintro e w6 ⟨rfl, hb6⟩
      have ht6 := ht4.below hb6 (Nat.le_refl _)
      have hb06 : Below w.heap.size w w6 := hb04.trans (hb6.mono hb04.size)
      try rw [decide_eq_true rfl]
      go_wp2_with (go_at_call 22; refine (awake_any _ ht6).mono ?_)
      first | rintro e w7 rfl hb7 | rintro e w7 ⟨rfl, hb7⟩
      go_wp2_with fail
      go_ret
      exact ⟨rfl, hb06.trans (hb7.mono hb06.size)⟩
end Go.Proofs.YtlcjfphhogcenaaDoor
