/-
  Walks of layer 6: Order of the reference.
-/
import Derived.Test.YtlcjfphhogcenaaDoorGlyphN
set_option linter.unusedVariables false
set_option linter.unusedSimpArgs false
namespace Go.Proofs.YtlcjfphhogcenaaDoor
open Go.RowKit

/-- What has been put out when the runs acc are done. -/
def outOf (b : Bool) (acc : List (List Int)) : List Int := if b then acc.reverse.flatten else acc.flatten
theorem outOf_true (acc : List (List Int)) (r : List Int) : outOf true (acc ++ [r]) = r ++ outOf true acc := by simp [outOf]
theorem outOf_false (acc : List (List Int)) (r : List Int) : outOf false (acc ++ [r]) = outOf false acc ++ r := by simp [outOf]
theorem outOf_order (xs : List Int) : outOf (Gl.base xs) (Gl.runs xs) = Gl.order xs := rfl

theorem OI.form_n {w : World} {B n : Nat} {v : Value} {xs : List Int} (h : OI w B v xs) (hn : xs.length = n) : ∃ A c, v = .slice A n c ∧ n ≤ c ∧ RI w A xs ∧ (A = none → c = 0) := by
  subst hn
  obtain ⟨A, c, e, h1, h2, h3⟩ := h.form
  refine ⟨A, c, e, h1, h3, fun hA => ?_⟩
  subst hA
  rcases h.2 with ⟨hv, _⟩ | ⟨g, cap, cur, hv, _⟩
  · rw [e] at hv; injection hv
  · rw [e] at hv; injection hv with hv; cases hv

set_option maxHeartbeats 8000000 in
theorem rorder_any (A : Option Addr) (c : Nat) (xs : List Int) (w : World) (hA : RI w A xs) (hx : xs.length ≤ 100000000000) (hc : xs.length ≤ c) :
    Calls Tryd.prog 32 #[.slice A xs.length c] w (ListPost (Gl.order xs) w) := by
  go_enter Tryd.func32, Tryd.ntmps32
  go_wp2_with fail
  go_loopw [3, 4] (fun v iv wr => ∃ (i f : Nat) (acc : List (List Int)), iv = .int .i64 i ∧ i ≤ xs.length ∧ OI wr w.heap.size v (outOf (Gl.base xs) acc) ∧ Below w.heap.size w wr ∧ Hid (Gl.runs xs = acc ++ Gl.runsN xs f i) ∧ xs.length ≤ i + f ∧ (outOf (Gl.base xs) acc).length ≤ i) (fun _ iv _ => xs.length - (intOf iv).toNat)
  case atStart => exact ⟨0, xs.length, [], rfl, by omega, by cases Gl.base xs <;> exact OI.nil _ _, Below.refl _ _, by simp [Hid, Gl.runs], by omega, by cases Gl.base xs <;> simp [outOf]⟩
  case round =>
    obtain ⟨i, f, acc, rfl, hi, hown, hbw, hacc, hf, hal⟩ := hrel
    have hsz := hbw.size
    by_cases hlt : i < xs.length
    · obtain ⟨wo, rfl⟩ : ∃ wo : World, wo = wr := ⟨_, rfl⟩
      have hAo := hA.below hbw
      have HD := Lib.hid (fun k (hk : k < xs.length) => rdirection_any A c k xs wo hAo (by omega) hk)
      have HBS := Lib.hid (fun (W : World) (hb : Below wo.heap.size wo W) => rbase_any A c xs W (hAo.below hb) (by omega))
      obtain ⟨b1, o1, rfl, hb1, hc1⟩ := hAo i hlt
      have HC := Lib.hid hc1
      clear hc1 hA hAo
      go_wp2_with (go_at_call 59; refine (HD.out i hlt).mono ?_; rintro e w1 ⟨rfl, rfl⟩)
      go_loopw [6] (fun jv wx => ∃ j : Nat, jv = .int .i64 j ∧ i + 1 ≤ j ∧ j ≤ xs.length ∧ Hid (∀ k, i + 1 ≤ k → k < j → Gl.left xs k = Gl.left xs i) ∧ wo = wx) (fun jv _ => xs.length - (intOf jv).toNat)
      case atStart => exact ⟨i + 1, by go_num, by omega, by omega, fun k h1 h2 => absurd h1 (by omega), rfl⟩
      case round =>
        obtain ⟨j, rfl, hij, hj, hd, rfl⟩ := hrel
        have hpl : ((xs.take j).drop i).length = j - i := by simp; omega
        have HPL := Lib.hid hpl
        have hpart := RI.part HC.out hb1 (f := i) hj
        clear hpl
        have hrest : ∀ (_ : j = xs.length ∨ Gl.left xs j ≠ Gl.left xs i), ∃ f', xs.length ≤ j + f' ∧ Gl.runs xs = (acc ++ [runAt xs i j]) ++ Gl.runsN xs f' j := fun hs => by
          obtain ⟨f', rfl⟩ : ∃ f', f = f' + 1 := ⟨f - 1, by omega⟩
          exact ⟨f', by omega, runs_step hlt hij hj hd.out hs hacc.out⟩
        have HREST := Lib.hid hrest
        clear hrest
        by_cases hjn : j < xs.length
        · have hse := sgn_eq (Gl.left xs j) (Gl.left xs i)
          by_cases he : Gl.left xs j = Gl.left xs i
          · have he1 : (sgn (Gl.left xs j) == sgn (Gl.left xs i)) = true := by rw [hse]; simp [he]
            have HE := Lib.hid he
            clear he hse
            go_wp2_with (go_at_call 59; refine (HD.out j hjn).mono ?_; rintro e w1 ⟨rfl, rfl⟩)
            go_roundw
            case rel => exact ⟨j + 1, by go_num, by omega, by omega, fun k h1 h2 => (Nat.lt_or_eq_of_le (Nat.le_of_lt_succ h2)).elim (hd.out k h1) (fun e => by rw [e]; exact HE.out), trivial⟩
            case measure => simp [intOf]; omega
          · have he1 : (sgn (Gl.left xs j) == sgn (Gl.left xs i)) = false := by rw [hse]; simp [he]
            obtain ⟨f', hf', hst⟩ := HREST.out (Or.inr he)
            have HST := Lib.hid hst
            clear he hse hst
            have hij2 : i < j := by omega
            have hsum : ([] : List Int).length + ((xs.take j).drop i).length ≤ 10000000000000 := by rw [HPL.out]; simp; omega
            have hsl := sgn_lt (Gl.left xs i)
            have hrl : (runAt xs i j).length = j - i := runAt_length hj
            have HRL := Lib.hid hrl
            clear hrl
            rcases Bool.eq_false_or_eq_true (Gl.left xs i) with hL | hL
            rotate_left
            · have hsl1 := hsl.trans hL
              have HLf := Lib.hid hL
              clear hsl hL
              go_wp2_with (first | (go_at_call 59; refine (HD.out j (by assumption)).mono ?_; rintro e w1 ⟨rfl, rfl⟩) | (at_builtin; refine append_ints rfl _ _ rfl wo wo.heap.size (.slice none 0 0) [] _ _ _ rfl (OI.nil _ _) hpart (fun h => by cases h) _ HPL.out.symm rfl hsum (Nat.le_refl _) ?_; intro v2 w2 hown2 hb2 hg2; rw [List.nil_append] at hown2; obtain ⟨A2, c2, rfl, hc2, hR2, hn2⟩ := hown2.form_n HPL.out))
              have hrun : (xs.take j).drop i = runAt xs i j := by unfold runAt; rw [HLf.out]; rfl
              rw [hrun] at hR2 hown2
              clear hrun
              have hz2 := hb2.size
              have hown3 := hown.below hb2 (Nat.le_refl _)
              have hbs := sgn_lt (Gl.base xs)
              have hfin : Below w.heap.size w w2 := hbw.trans (hb2.mono hsz)
              rcases Bool.eq_false_or_eq_true (Gl.base xs) with hB | hB
              rotate_left
              · have hbs1 := hbs.trans hB
                have HBf := Lib.hid hB
                clear hbs hB
                have hsum2 : (outOf (Gl.base xs) acc).length + (runAt xs i j).length ≤ 10000000000000 := by rw [HRL.out]; omega
                have HOL := Lib.hid hal
                go_wp2_with (first | (go_at_call 61; refine (HBS.out _ hb2).mono ?_; rintro e w4 ⟨rfl, rfl⟩) | (at_builtin; refine append_ints rfl _ _ rfl w2 w.heap.size u3 _ (runAt xs i j) _ _ rfl hown3 hR2 hn2 _ HRL.out.symm rfl hsum2 (by omega) ?_; intro v5 w5 hown5 hb5 hg5))
                go_roundw
                case rel => exact ⟨j, f', acc ++ [runAt xs i j], rfl, hj, by rw [HBf.out, outOf_false]; rw [HBf.out] at hown5; exact hown5, hfin.trans hb5, HST.out, hf', by rw [HBf.out, outOf_false, List.length_append, HRL.out]; have := HOL.out; rw [HBf.out] at this; omega⟩
                case measure => simp [intOf]; omega
              · have hbs1 := hbs.trans hB
                have HBf := Lib.hid hB
                clear hbs hB
                have hsum2 : (runAt xs i j).length + (outOf (Gl.base xs) acc).length ≤ 10000000000000 := by rw [HRL.out]; omega
                have HOL := Lib.hid hal
                obtain ⟨n3, hn3⟩ : ∃ n3, (outOf (Gl.base xs) acc).length = n3 := ⟨_, rfl⟩
                obtain ⟨A3, c3, rfl, hc3, hR3, hn3'⟩ := hown3.form_n hn3
                have HN3 := Lib.hid hn3
                clear hn3
                have hown2' := hown2.mono (B' := w.heap.size) hsz
                go_wp2_with (first | (go_at_call 61; refine (HBS.out _ hb2).mono ?_; rintro e w4 ⟨rfl, rfl⟩) | (at_builtin; refine append_ints rfl _ _ rfl w2 w.heap.size (.slice A2 (j - i) c2) (runAt xs i j) (outOf (Gl.base xs) acc) _ _ rfl hown2' hR3 hn3' _ HN3.out.symm rfl hsum2 (by omega) ?_; intro v5 w5 hown5 hb5 hg5))
                go_roundw
                case rel => exact ⟨j, f', acc ++ [runAt xs i j], rfl, hj, by rw [HBf.out, outOf_true]; rw [HBf.out] at hown5; exact hown5, hfin.trans hb5, HST.out, hf', by rw [HBf.out, outOf_true, List.length_append, HRL.out]; have := HOL.out; rw [HBf.out] at this; omega⟩
                case measure => simp [intOf]; omega
            · have hsl1 := hsl.trans hL
              have HLf := Lib.hid hL
              clear hsl hL
              go_wp2_with (first | (go_at_call 59; refine (HD.out j (by assumption)).mono ?_; rintro e w1 ⟨rfl, rfl⟩) | (at_builtin; refine append_ints rfl _ _ rfl wo wo.heap.size (.slice none 0 0) [] _ _ _ rfl (OI.nil _ _) hpart (fun h => by cases h) _ HPL.out.symm rfl hsum (Nat.le_refl _) ?_; intro v2 w2 hown2 hb2 hg2) | (go_at_call 60; refine (rturned_any _ _ _ _ _ HPL.out (hpart.below hb2) (by omega) (by omega)).mono ?_))
              rintro e w3 ⟨hb3, v3, rfl, hown3'⟩
              have hb23 : Below wo.heap.size wo w3 := hb2.trans (hb3.mono hb2.size)
              have hrun : Gl.turned ((xs.take j).drop i) = runAt xs i j := by unfold runAt; rw [HLf.out]; rfl
              rw [hrun] at hown3'
              obtain ⟨A2, c2, rfl, hc2, hR2, hn2⟩ := hown3'.form_n HRL.out
              have hown2 := hown3'.mono (B' := wo.heap.size) hb2.size
              clear hrun hown3'
              have hz2 := hb23.size
              have hown3 := hown.below hb23 (Nat.le_refl _)
              have hbs := sgn_lt (Gl.base xs)
              have hfin : Below w.heap.size w w3 := hbw.trans (hb23.mono hsz)
              rcases Bool.eq_false_or_eq_true (Gl.base xs) with hB | hB
              rotate_left
              · have hbs1 := hbs.trans hB
                have HBf := Lib.hid hB
                clear hbs hB
                have hsum2 : (outOf (Gl.base xs) acc).length + (runAt xs i j).length ≤ 10000000000000 := by rw [HRL.out]; omega
                have HOL := Lib.hid hal
                go_wp2_with (first | (go_at_call 61; refine (HBS.out _ hb23).mono ?_; rintro e w4 ⟨rfl, rfl⟩) | (at_builtin; refine append_ints rfl _ _ rfl w3 w.heap.size u3 _ (runAt xs i j) _ _ rfl hown3 hR2 hn2 _ HRL.out.symm rfl hsum2 (by omega) ?_; intro v5 w5 hown5 hb5 hg5))
                go_roundw
                case rel => exact ⟨j, f', acc ++ [runAt xs i j], rfl, hj, by rw [HBf.out, outOf_false]; rw [HBf.out] at hown5; exact hown5, hfin.trans hb5, HST.out, hf', by rw [HBf.out, outOf_false, List.length_append, HRL.out]; have := HOL.out; rw [HBf.out] at this; omega⟩
                case measure => simp [intOf]; omega
              · have hbs1 := hbs.trans hB
                have HBf := Lib.hid hB
                clear hbs hB
                have hsum2 : (runAt xs i j).length + (outOf (Gl.base xs) acc).length ≤ 10000000000000 := by rw [HRL.out]; omega
                have HOL := Lib.hid hal
                obtain ⟨n3, hn3⟩ : ∃ n3, (outOf (Gl.base xs) acc).length = n3 := ⟨_, rfl⟩
                obtain ⟨A3, c3, rfl, hc3, hR3, hn3'⟩ := hown3.form_n hn3
                have HN3 := Lib.hid hn3
                clear hn3
                have hown2' := hown2.mono (B' := w.heap.size) hsz
                go_wp2_with (first | (go_at_call 61; refine (HBS.out _ hb23).mono ?_; rintro e w4 ⟨rfl, rfl⟩) | (at_builtin; refine append_ints rfl _ _ rfl w3 w.heap.size (.slice A2 (j - i) c2) (runAt xs i j) (outOf (Gl.base xs) acc) _ _ rfl hown2' hR3 hn3' _ HN3.out.symm rfl hsum2 (by omega) ?_; intro v5 w5 hown5 hb5 hg5))
                go_roundw
                case rel => exact ⟨j, f', acc ++ [runAt xs i j], rfl, hj, by rw [HBf.out, outOf_true]; rw [HBf.out] at hown5; exact hown5, hfin.trans hb5, HST.out, hf', by rw [HBf.out, outOf_true, List.length_append, HRL.out]; have := HOL.out; rw [HBf.out] at this; omega⟩
                case measure => simp [intOf]; omega
        · obtain ⟨f', hf', hst⟩ := HREST.out (Or.inl (by omega))
          have HST := Lib.hid hst
          clear hst
          have hij2 : i < j := by omega
          have hsum : ([] : List Int).length + ((xs.take j).drop i).length ≤ 10000000000000 := by rw [HPL.out]; simp; omega
          have hsl := sgn_lt (Gl.left xs i)
          have hrl : (runAt xs i j).length = j - i := runAt_length hj
          have HRL := Lib.hid hrl
          clear hrl
          rcases Bool.eq_false_or_eq_true (Gl.left xs i) with hL | hL
          rotate_left
          · have hsl1 := hsl.trans hL
            have HLf := Lib.hid hL
            clear hsl hL
            go_wp2_with (first | (go_at_call 59; refine (HD.out j (by assumption)).mono ?_; rintro e w1 ⟨rfl, rfl⟩) | (at_builtin; refine append_ints rfl _ _ rfl wo wo.heap.size (.slice none 0 0) [] _ _ _ rfl (OI.nil _ _) hpart (fun h => by cases h) _ HPL.out.symm rfl hsum (Nat.le_refl _) ?_; intro v2 w2 hown2 hb2 hg2; rw [List.nil_append] at hown2; obtain ⟨A2, c2, rfl, hc2, hR2, hn2⟩ := hown2.form_n HPL.out))
            have hrun : (xs.take j).drop i = runAt xs i j := by unfold runAt; rw [HLf.out]; rfl
            rw [hrun] at hR2 hown2
            clear hrun
            have hz2 := hb2.size
            have hown3 := hown.below hb2 (Nat.le_refl _)
            have hbs := sgn_lt (Gl.base xs)
            have hfin : Below w.heap.size w w2 := hbw.trans (hb2.mono hsz)
            rcases Bool.eq_false_or_eq_true (Gl.base xs) with hB | hB
            rotate_left
            · have hbs1 := hbs.trans hB
              have HBf := Lib.hid hB
              clear hbs hB
              have hsum2 : (outOf (Gl.base xs) acc).length + (runAt xs i j).length ≤ 10000000000000 := by rw [HRL.out]; omega
              have HOL := Lib.hid hal
              go_wp2_with (first | (go_at_call 61; refine (HBS.out _ hb2).mono ?_; rintro e w4 ⟨rfl, rfl⟩) | (at_builtin; refine append_ints rfl _ _ rfl w2 w.heap.size u3 _ (runAt xs i j) _ _ rfl hown3 hR2 hn2 _ HRL.out.symm rfl hsum2 (by omega) ?_; intro v5 w5 hown5 hb5 hg5))
              go_roundw
              case rel => exact ⟨j, f', acc ++ [runAt xs i j], rfl, hj, by rw [HBf.out, outOf_false]; rw [HBf.out] at hown5; exact hown5, hfin.trans hb5, HST.out, hf', by rw [HBf.out, outOf_false, List.length_append, HRL.out]; have := HOL.out; rw [HBf.out] at this; omega⟩
              case measure => simp [intOf]; omega
            · have hbs1 := hbs.trans hB
              have HBf := Lib.hid hB
              clear hbs hB
              have hsum2 : (runAt xs i j).length + (outOf (Gl.base xs) acc).length ≤ 10000000000000 := by rw [HRL.out]; omega
              have HOL := Lib.hid hal
              obtain ⟨n3, hn3⟩ : ∃ n3, (outOf (Gl.base xs) acc).length = n3 := ⟨_, rfl⟩
              obtain ⟨A3, c3, rfl, hc3, hR3, hn3'⟩ := hown3.form_n hn3
              have HN3 := Lib.hid hn3
              clear hn3
              have hown2' := hown2.mono (B' := w.heap.size) hsz
              go_wp2_with (first | (go_at_call 61; refine (HBS.out _ hb2).mono ?_; rintro e w4 ⟨rfl, rfl⟩) | (at_builtin; refine append_ints rfl _ _ rfl w2 w.heap.size (.slice A2 (j - i) c2) (runAt xs i j) (outOf (Gl.base xs) acc) _ _ rfl hown2' hR3 hn3' _ HN3.out.symm rfl hsum2 (by omega) ?_; intro v5 w5 hown5 hb5 hg5))
              go_roundw
              case rel => exact ⟨j, f', acc ++ [runAt xs i j], rfl, hj, by rw [HBf.out, outOf_true]; rw [HBf.out] at hown5; exact hown5, hfin.trans hb5, HST.out, hf', by rw [HBf.out, outOf_true, List.length_append, HRL.out]; have := HOL.out; rw [HBf.out] at this; omega⟩
              case measure => simp [intOf]; omega
          · have hsl1 := hsl.trans hL
            have HLf := Lib.hid hL
            clear hsl hL
            go_wp2_with (first | (go_at_call 59; refine (HD.out j (by assumption)).mono ?_; rintro e w1 ⟨rfl, rfl⟩) | (at_builtin; refine append_ints rfl _ _ rfl wo wo.heap.size (.slice none 0 0) [] _ _ _ rfl (OI.nil _ _) hpart (fun h => by cases h) _ HPL.out.symm rfl hsum (Nat.le_refl _) ?_; intro v2 w2 hown2 hb2 hg2) | (go_at_call 60; refine (rturned_any _ _ _ _ _ HPL.out (hpart.below hb2) (by omega) (by omega)).mono ?_))
            rintro e w3 ⟨hb3, v3, rfl, hown3'⟩
            have hb23 : Below wo.heap.size wo w3 := hb2.trans (hb3.mono hb2.size)
            have hrun : Gl.turned ((xs.take j).drop i) = runAt xs i j := by unfold runAt; rw [HLf.out]; rfl
            rw [hrun] at hown3'
            obtain ⟨A2, c2, rfl, hc2, hR2, hn2⟩ := hown3'.form_n HRL.out
            have hown2 := hown3'.mono (B' := wo.heap.size) hb2.size
            clear hrun hown3'
            have hz2 := hb23.size
            have hown3 := hown.below hb23 (Nat.le_refl _)
            have hbs := sgn_lt (Gl.base xs)
            have hfin : Below w.heap.size w w3 := hbw.trans (hb23.mono hsz)
            rcases Bool.eq_false_or_eq_true (Gl.base xs) with hB | hB
            rotate_left
            · have hbs1 := hbs.trans hB
              have HBf := Lib.hid hB
              clear hbs hB
              have hsum2 : (outOf (Gl.base xs) acc).length + (runAt xs i j).length ≤ 10000000000000 := by rw [HRL.out]; omega
              have HOL := Lib.hid hal
              go_wp2_with (first | (go_at_call 61; refine (HBS.out _ hb23).mono ?_; rintro e w4 ⟨rfl, rfl⟩) | (at_builtin; refine append_ints rfl _ _ rfl w3 w.heap.size u3 _ (runAt xs i j) _ _ rfl hown3 hR2 hn2 _ HRL.out.symm rfl hsum2 (by omega) ?_; intro v5 w5 hown5 hb5 hg5))
              go_roundw
              case rel => exact ⟨j, f', acc ++ [runAt xs i j], rfl, hj, by rw [HBf.out, outOf_false]; rw [HBf.out] at hown5; exact hown5, hfin.trans hb5, HST.out, hf', by rw [HBf.out, outOf_false, List.length_append, HRL.out]; have := HOL.out; rw [HBf.out] at this; omega⟩
              case measure => simp [intOf]; omega
            · have hbs1 := hbs.trans hB
              have HBf := Lib.hid hB
              clear hbs hB
              have hsum2 : (runAt xs i j).length + (outOf (Gl.base xs) acc).length ≤ 10000000000000 := by rw [HRL.out]; omega
              have HOL := Lib.hid hal
              obtain ⟨n3, hn3⟩ : ∃ n3, (outOf (Gl.base xs) acc).length = n3 := ⟨_, rfl⟩
              obtain ⟨A3, c3, rfl, hc3, hR3, hn3'⟩ := hown3.form_n hn3
              have HN3 := Lib.hid hn3
              clear hn3
              have hown2' := hown2.mono (B' := w.heap.size) hsz
              go_wp2_with (first | (go_at_call 61; refine (HBS.out _ hb23).mono ?_; rintro e w4 ⟨rfl, rfl⟩) | (at_builtin; refine append_ints rfl _ _ rfl w3 w.heap.size (.slice A2 (j - i) c2) (runAt xs i j) (outOf (Gl.base xs) acc) _ _ rfl hown2' hR3 hn3' _ HN3.out.symm rfl hsum2 (by omega) ?_; intro v5 w5 hown5 hb5 hg5))
              go_roundw
              case rel => exact ⟨j, f', acc ++ [runAt xs i j], rfl, hj, by rw [HBf.out, outOf_true]; rw [HBf.out] at hown5; exact hown5, hfin.trans hb5, HST.out, hf', by rw [HBf.out, outOf_true, List.length_append, HRL.out]; have := HOL.out; rw [HBf.out] at this; omega⟩
              case measure => simp [intOf]; omega
    · have HE := Lib.hid (runs_end hlt hacc.out)
      go_wp2_with fail
      go_ret
      exact ⟨hbw, _, rfl, by rw [← outOf_order, HE.out]; exact hown⟩
end Go.Proofs.YtlcjfphhogcenaaDoor
