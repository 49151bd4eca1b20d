/-
  Walks of the statements of layer 6: GlyphMoves.
-/
import Derived.Test.YtlcjfphhogcenaaDoorGlyphQ
set_option linter.unusedVariables false
set_option linter.unusedSimpArgs false
namespace Go.Proofs.YtlcjfphhogcenaaDoor
open Go.RowKit

/-- How often a list holds a number, among its first i. -/
def cn (xs : List Int) (n : Int) (i : Nat) : Nat := (xs.take i).count n
def ct (xs : List Int) (n : Int) : Nat := xs.count n
theorem cn_zero (xs : List Int) (n : Int) : cn xs n 0 = 0 := by simp [cn]
theorem cn_hit {xs : List Int} {n : Int} {i : Nat} (h : i < xs.length) (e : gi xs i = n) : cn xs n (i + 1) = cn xs n i + 1 := by
  unfold cn; rw [take_gi h, List.count_append, e]; simp
theorem cn_miss {xs : List Int} {n : Int} {i : Nat} (h : i < xs.length) (e : gi xs i ≠ n) : cn xs n (i + 1) = cn xs n i := by
  unfold cn; rw [take_gi h, List.count_append]; simp [List.count_cons, e]
theorem cn_all {xs : List Int} {n : Int} {i : Nat} (h : xs.length ≤ i) : cn xs n i = ct xs n := by
  unfold cn ct; rw [List.take_of_length_le h]

set_option maxHeartbeats 2000000 in
theorem count_any (A : Option Addr) (c N : Nat) (xs : List Int) (n : Int) (w : World) (hN : xs.length = N) (hA : RI w A xs) (hx : N ≤ 1000000000000000) :
    Calls Tryd.prog 33 #[.slice A N c, .int .i64 n] w fun e w' => e = .returned (.int .i64 (ct xs n : Nat)) ∧ w' = w := by
  subst hN
  go_enter Tryd.func33, Tryd.ntmps33
  go_wp2_with fail
  go_loopw [5, 6] (fun kv iv wr => ∃ i k : Nat, kv = .int .i64 k ∧ iv = .int .i64 i ∧ i ≤ xs.length ∧ k ≤ i ∧ Hid (cn xs n i = k) ∧ w = wr) (fun _ iv _ => xs.length - (intOf iv).toNat)
  case atStart => exact ⟨0, 0, rfl, rfl, by omega, by omega, cn_zero _ _, rfl⟩
  case round =>
    obtain ⟨i, k, rfl, rfl, hi, hk, hcn, rfl⟩ := hrel
    by_cases hlt : i < xs.length
    · obtain ⟨b1, o1, rfl, hb1, hc1⟩ := hA i hlt
      have c1 := hc1 i hlt
      clear hc1 hA
      by_cases he : gi xs i = n
      · have he1 : (gi xs i == n) = true := by simp [he]
        have HS := Lib.hid (cn_hit hlt he)
        clear he
        go_wp2_with fail
        go_roundw
        case rel => exact ⟨i + 1, k + 1, by go_num, by go_num, by omega, by omega, by show _ = _; rw [HS.out, hcn.out], trivial⟩
        case measure => simp [intOf]; omega
      · have he1 : (gi xs i == n) = false := by simp [he]
        have HS := Lib.hid (cn_miss hlt he)
        clear he
        go_wp2_with fail
        go_roundw
        case rel => exact ⟨i + 1, k, by go_num, by go_num, by omega, by omega, by show _ = _; rw [HS.out, hcn.out], trivial⟩
        case measure => simp [intOf]; omega
    · go_wp2_with fail
      go_ret
      exact ⟨ret_int (by rw [← cn_all (xs := xs) (n := n) (i := i) (by omega), hcn.out]), rfl⟩

/-- How many Hebrew code points are among the first i. -/
def hc (xs : List Int) (i : Nat) : Nat := (xs.take i).countP Gl.hb
theorem hc_zero (xs : List Int) : hc xs 0 = 0 := by simp [hc]
theorem hc_hit {xs : List Int} {i : Nat} (h : i < xs.length) (h1 : 1488 ≤ gi xs i) (h2 : gi xs i ≤ 1514) : hc xs (i + 1) = hc xs i + 1 := by
  have : Gl.hb (gi xs i) = true := by rw [Gl.hb_iff]; simp [h1, h2]
  unfold hc; rw [take_gi h, List.countP_append]; simp [List.countP_cons, this]
theorem hc_miss {xs : List Int} {i : Nat} (h : i < xs.length) (h1 : ¬ (1488 ≤ gi xs i ∧ gi xs i ≤ 1514)) : hc xs (i + 1) = hc xs i := by
  have : Gl.hb (gi xs i) = false := by rw [Gl.hb_iff]; simpa using h1
  unfold hc; rw [take_gi h, List.countP_append]; simp [List.countP_cons, this]
theorem hc_none {xs : List Int} {i : Nat} (hi : xs.length ≤ i) (h : hc xs i = 0) : Gl.order xs = xs := by
  unfold hc at h
  rw [List.take_of_length_le hi, List.countP_eq_zero] at h
  exact Gl.order_plain fun x hx => by have := h x hx; simpa using this
theorem hc_full {xs : List Int} {i : Nat} (hi : xs.length ≤ i) (h : hc xs i = xs.length) : Gl.order xs = xs.reverse := by
  unfold hc at h
  rw [List.take_of_length_le hi, List.countP_eq_length] at h
  exact Gl.order_hebrew h
theorem rev_gi {xs : List Int} {i : Nat} (h : i < xs.length) : gi xs.reverse i = gi xs (xs.length - 1 - i) := by
  rw [gi_eq (by simpa using h), gi_eq (by omega), List.getElem_reverse]

set_option maxHeartbeats 8000000 in
theorem law_moves (A : Option Addr) (c : Nat) (xs : List Int) (w : World) (ht : Gl.Tab w) (hA : RI w A xs) (hx : xs.length ≤ 9223372036854775807) (hc : xs.length ≤ c) :
    Calls Tryd.prog 10 #[.slice A xs.length c] w fun e w' => e = .returned (.bool true) ∧ Below w.heap.size w w' := by
  go_enter Tryd.func10, Tryd.ntmps10
  by_cases hl : 400 < xs.length
  · go_wp2_with (go_at_call 22; refine (awake_any _ ht).mono ?_)
    first | rintro e w5 rfl hb5 | rintro e w5 ⟨rfl, hb5⟩
    go_wp2_with fail
    go_ret
    exact ⟨rfl, hb5⟩
  clear hx
  go_wp2_with (go_at_call 31; refine (order_any _ _ _ _ ht hA (by omega) hc).mono ?_)
  rintro e w1 ⟨hb1, v1, rfl, ho1⟩
  have ht1 := ht.below hb1 (Nat.le_refl _)
  have hA1 := hA.below hb1
  obtain ⟨A1, c1, rfl, _, hR1, _⟩ := ho1.form_n (Gl.order_length xs)
  obtain ⟨ys, hys⟩ : ∃ ys, Gl.order xs = ys := ⟨_, rfl⟩
  have hyl : ys.length = xs.length := by rw [← hys]; exact Gl.order_length xs
  have HCT := Lib.hid (fun n => show ct ys n = ct xs n by rw [← hys]; exact Gl.order_count xs n)
  have HYS := Lib.hid hys
  rw [hys] at hR1
  clear hys ho1 hA
  have HYL := Lib.hid hyl
  clear hyl
  have HX := Lib.hid (fun (W : World) (n : Int) (hb : Below w1.heap.size w1 W) => count_any A c xs.length xs n W rfl (hA1.below hb) (by omega))
  have HY := Lib.hid (fun (W : World) (n : Int) (hb : Below w1.heap.size w1 W) => (count_any A1 c1 xs.length ys n W HYL.out (hR1.below hb) (by omega)).mono (fun e w' h => (by rw [← HCT.out n]; exact h : e = .returned (.int .i64 (ct xs n : Nat)) ∧ w' = W)))
  have HXY := Lib.hid (fun (B : Option Addr) (k : Nat) (W : World) (n : Int) (hor : (B = A ∧ k = c) ∨ (B = A1 ∧ k = c1)) (hb : Below w1.heap.size w1 W) =>
    (show Calls Tryd.prog 33 #[.slice B xs.length k, .int .i64 n] W fun e w' => e = .returned (.int .i64 (ct xs n : Nat)) ∧ w' = W from by
      rcases hor with ⟨rfl, rfl⟩ | ⟨rfl, rfl⟩
      · exact HX.out W n hb
      · exact HY.out W n hb))
  clear HX HY
  go_wp2_with fail
  go_loopw [4, 5] (fun hv iv wr => ∃ i h : Nat, hv = .int .i64 h ∧ iv = .int .i64 i ∧ i ≤ xs.length ∧ h ≤ i ∧ Hid (Go.Proofs.YtlcjfphhogcenaaDoor.hc xs i = h) ∧ Below w1.heap.size w1 wr) (fun _ iv _ => xs.length - (intOf iv).toNat)
  case atStart => exact ⟨0, 0, rfl, rfl, by omega, by omega, hc_zero _, Below.refl _ _⟩
  case round =>
    obtain ⟨i, h, rfl, rfl, hi, hh, hhc, hbw⟩ := hrel
    have hb0r : Below w.heap.size w wr := hb1.trans (hbw.mono hb1.size)
    have htr := ht1.below hbw (Nat.le_refl _)
    by_cases hlt : i < xs.length
    · obtain ⟨b1, o1, rfl, hbb1, hc1⟩ := hA1 i hlt
      have c1 := (hbw.cell (p := ⟨b1, o1 + i, none⟩) hbb1).trans (hc1 i hlt)
      clear hc1
      by_cases hg : 1488 ≤ gi xs i
      · by_cases hg2 : gi xs i ≤ 1514
        · have HS := Lib.hid (hc_hit hlt hg hg2)
          go_wp2_with fail
          go_quiet ((go_at_call 33; exact Calls.quiet_of_same (HXY.out _ _ _ _ (by first | exact Or.inr ⟨rfl, rfl⟩ | exact Or.inl ⟨rfl, rfl⟩) (below_drewN hbw _))))
          go_wp2_with fail
          go_roundw
          case rel => exact ⟨i + 1, h + 1, by go_num, by go_num, by omega, by omega, by show _ = _; rw [HS.out, hhc.out], below_drewN hbw _⟩
          case measure => simp [intOf]; omega
        · have HS := Lib.hid (hc_miss hlt (fun h => hg2 h.2))
          go_wp2_with fail
          go_quiet ((go_at_call 33; exact Calls.quiet_of_same (HXY.out _ _ _ _ (by first | exact Or.inr ⟨rfl, rfl⟩ | exact Or.inl ⟨rfl, rfl⟩) (below_drewN hbw _))))
          go_wp2_with fail
          go_roundw
          case rel => exact ⟨i + 1, h, by go_num, by go_num, by omega, by omega, by show _ = _; rw [HS.out, hhc.out], below_drewN hbw _⟩
          case measure => simp [intOf]; omega
      · have HS := Lib.hid (hc_miss hlt (fun h => hg h.1))
        go_wp2_with fail
        go_quiet ((go_at_call 33; exact Calls.quiet_of_same (HXY.out _ _ _ _ (by first | exact Or.inr ⟨rfl, rfl⟩ | exact Or.inl ⟨rfl, rfl⟩) (below_drewN hbw _))))
        go_wp2_with fail
        go_roundw
        case rel => exact ⟨i + 1, h, by go_num, by go_num, by omega, by omega, by show _ = _; rw [HS.out, hhc.out], below_drewN hbw _⟩
        case measure => simp [intOf]; omega
    · have HN := Lib.hid (fun e : h = 0 => HYS.out.symm.trans (hc_none (xs := xs) (i := i) (by omega) (hhc.out.trans e)))
      have HF := Lib.hid (fun e : h = xs.length => HYS.out.symm.trans (hc_full (xs := xs) (i := i) (by omega) (hhc.out.trans e)))
      have hAr := hA1.below hbw
      have hRr := hR1.below hbw
      by_cases h0 : h = 0
      · have hyx := HN.out h0
        rw [hyx] at hRr
        clear hyx
        go_wp2_with (go_at_call 21; refine (rsame_any _ _ _ _ _ xs xs hRr hAr (by omega)).mono ?_)
        first | rintro e w3 rfl hb3 | rintro e w3 ⟨rfl, hb3⟩
        have ht3 := htr.below hb3 (Nat.le_refl _)
        have hb03 : Below w.heap.size w w3 := hb0r.trans (hb3.mono hb0r.size)
        try rw [decide_eq_true rfl]
        go_wp2_with (go_at_call 22; refine (awake_any _ ht3).mono ?_)
        first | rintro e w5 rfl hb5 | rintro e w5 ⟨rfl, hb5⟩
        go_wp2_with fail
        go_ret
        exact ⟨rfl, hb03.trans (hb5.mono hb03.size)⟩
      by_cases h1 : h < xs.length
      · go_wp2_with (go_at_call 22; refine (awake_any _ htr).mono ?_)
        first | rintro e w5 rfl hb5 | rintro e w5 ⟨rfl, hb5⟩
        go_wp2_with fail
        go_ret
        exact ⟨rfl, hb0r.trans (hb5.mono hb0r.size)⟩
      have hyx := HF.out (by omega)
      have HG := Lib.hid (fun k (hk : k < xs.length) => show gi ys k = gi xs (xs.length - 1 - k) by rw [hyx]; exact rev_gi hk)
      clear hyx
      go_wp2_with fail
      go_loopw [6] (fun iv wx => ∃ i : Nat, iv = .int .i64 i ∧ i ≤ xs.length ∧ Below w1.heap.size w1 wx) (fun iv _ => xs.length - (intOf iv).toNat)
      case atStart => exact ⟨0, rfl, by omega, hbw⟩
      case round =>
        obtain ⟨k, rfl, hk, hbx⟩ := hrel
        have hb0x : Below w.heap.size w wr := hb1.trans (hbx.mono hb1.size)
        have htx := ht1.below hbx (Nat.le_refl _)
        by_cases hlt2 : k < xs.length
        · obtain ⟨b1, o1, rfl, hbb1, hc1⟩ := hA1 k hlt2
          obtain ⟨b2, o2, rfl, hbb2, hc2⟩ := hR1 k (by have := HYL.out; omega)
          have c1 := (hbx.cell (p := ⟨b1, o1 + (xs.length - 1 - k), none⟩) hbb1).trans (hc1 (xs.length - 1 - k) (by omega))
          have c2 := (hbx.cell (p := ⟨b2, o2 + k, none⟩) hbb2).trans (hc2 k (by have := HYL.out; omega))
          rw [HG.out k hlt2] at c2
          clear hc1 hc2
          go_wp2_with fail
          go_quiet (fail)
          go_wp2_with fail
          go_roundw
          case rel => exact ⟨k + 1, by go_num, by omega, below_drewN hbx _⟩
          case measure => simp [intOf]; omega
        · go_wp2_with (go_at_call 22; refine (awake_any _ htx).mono ?_)
          first | rintro e w5 rfl hb5 | rintro e w5 ⟨rfl, hb5⟩
          go_wp2_with fail
          go_ret
          exact ⟨rfl, hb0x.trans (hb5.mono hb0x.size)⟩
end Go.Proofs.YtlcjfphhogcenaaDoor
