/-
  Walks of layer 6: turned and Order of the reference.
-/
import Derived.Test.YtlcjfphhogcenaaDoorGlyphM
set_option linter.unusedVariables false
set_option linter.unusedSimpArgs false
namespace Go.Proofs.YtlcjfphhogcenaaDoor
open Go.RowKit

theorem take_split {xs : List Int} {f e : Nat} (hf : f ≤ e) : xs.take e = xs.take f ++ (xs.take e).drop f := by
  have := List.take_append_drop f (xs.take e)
  rw [List.take_take, Nat.min_eq_left hf] at this
  exact this.symm
theorem turned_step {xs acc : List Int} {e f : Nat} (he : e ≤ xs.length) (hf : f < e)
    (hs : (Gl.digit (gi xs (e - 1)) = false ∧ f = e - 1) ∨ ((∀ k, f ≤ k → k < e → Gl.digit (gi xs k) = true) ∧ (f = 0 ∨ Gl.digit (gi xs (f - 1)) = false)))
    (h : Gl.turned xs = acc ++ Gl.fix (xs.take e).reverse) : Gl.turned xs = (acc ++ (xs.take e).drop f) ++ Gl.fix (xs.take f).reverse := by
  rw [h, List.append_assoc]
  congr 1
  have e1 : (xs.take e).reverse = ((xs.take e).drop f).reverse ++ (xs.take f).reverse := by rw [← List.reverse_append, ← take_split (by omega)]
  rcases hs with ⟨hd, rfl⟩ | ⟨hall, hstop⟩
  · have e2 : (xs.take e).drop (e - 1) = [gi xs (e - 1)] := by
      obtain ⟨p, rfl⟩ : ∃ p, e = p + 1 := ⟨e - 1, by omega⟩
      rw [Nat.add_sub_cancel, take_gi (by omega), List.drop_left' (by simp; omega)]
    rw [e1, e2]
    simp only [List.reverse_singleton, List.singleton_append]
    rw [Gl.fix_other hd]
  · rw [e1, Gl.fix_digits]
    · rw [List.reverse_reverse]
    · intro x hx
      rw [List.mem_reverse] at hx
      obtain ⟨k, hk, rfl⟩ := List.mem_iff_getElem.1 hx
      have hk' : f + k < e := by simp at hk; omega
      have := hall (f + k) (by omega) hk'
      rw [gi_eq (by omega)] at this
      simpa [List.getElem_drop, List.getElem_take] using this
    · intro h0
      have := congrArg List.length h0
      simp at this; omega
    · intro x hx
      rcases hstop with rfl | hstop
      · simp at hx
      · obtain ⟨p, rfl⟩ : ∃ p, f = p + 1 := by
          cases f with
          | zero => simp at hx
          | succ p => exact ⟨p, rfl⟩
        rw [take_gi (by omega), List.reverse_append] at hx
        simp at hx
        rw [← hx]; exact hstop

theorem RI.part {w : World} {b off : Nat} {xs : List Int} (h : ∀ j, j < xs.length → w.cell? ⟨b, off + j, none⟩ = some (.int .i64 (gi xs j))) (hb : b < w.heap.size) {f e : Nat} (he : e ≤ xs.length) : RI w (some ⟨b, off + f, none⟩) ((xs.take e).drop f) := fun k hk => by
  refine ⟨b, off + f, rfl, hb, fun j hj => ?_⟩
  have hj' : f + j < e := by simp at hj; omega
  rw [gi_drop, gi_take hj', Nat.add_assoc]
  exact h (f + j) (by omega)

set_option maxHeartbeats 4000000 in
theorem rturned_any (A : Option Addr) (n c : Nat) (xs : List Int) (w : World) (hxn : xs.length = n) (hA : RI w A xs) (hx : n ≤ 10000000000000) (hc : n ≤ c) :
    Calls Tryd.prog 60 #[.slice A n c] w (ListPost (Gl.turned xs) w) := by
  subst hxn
  go_enter Tryd.func60, Tryd.ntmps60
  go_wp2_with fail
  go_loopw [3, 4] (fun v ev wr => ∃ (e : Nat) (acc : List Int), ev = .int .i64 e ∧ e ≤ xs.length ∧ OI wr w.heap.size v acc ∧ Below w.heap.size w wr ∧ Hid (Gl.turned xs = acc ++ Gl.fix (xs.take e).reverse) ∧ acc.length + e = xs.length) (fun _ ev _ => (intOf ev).toNat)
  case atStart => exact ⟨xs.length, [], rfl, by omega, OI.nil _ _, Below.refl _ _, by simp [Hid, Gl.turned], by simp⟩
  case round =>
    obtain ⟨e, acc, rfl, he, hown, hbw, hacc, hal⟩ := hrel
    have HAL := Lib.hid hal
    have hal2 : acc.length + e ≤ xs.length := by omega
    clear hal
    have hsz := hbw.size
    by_cases hlt : 0 < e
    · obtain ⟨p, rfl⟩ : ∃ p, e = p + 1 := ⟨e - 1, by omega⟩
      have ep : ((p + 1 : Nat) : Int) = (p : Int) + 1 := by omega
      rw [ep]
      clear ep
      obtain ⟨wo, rfl⟩ : ∃ wo : World, wo = wr := ⟨_, rfl⟩
      obtain ⟨b1, o1, rfl, hb1, hc1⟩ := hA p (by omega)
      have hc2 : ∀ j, j < xs.length → wo.cell? ⟨b1, o1 + j, none⟩ = some (.int .i64 (gi xs j)) := fun j hj => (hbw.cell (p := ⟨b1, o1 + j, none⟩) hb1).trans (hc1 j hj)
      have HC := Lib.hid hc2
      have c1 := hc2 p (by omega)
      clear hc1 hc2 hA
      go_wp2_with fail
      go_loopw [5] (fun fv wx => ∃ f : Nat, fv = .int .i64 f ∧ f ≤ p ∧ Hid (f = p ∨ ∀ k, f ≤ k → k < p + 1 → Gl.digit (gi xs k) = true) ∧ wo = wx) (fun fv _ => (intOf fv).toNat)
      case atStart => exact ⟨p, by go_num, by omega, Or.inl rfl, rfl⟩
      case round =>
        obtain ⟨f, rfl, hf, hd, rfl⟩ := hrel
        have hend : ∀ (hs : (Gl.digit (gi xs p) = false ∧ f = p) ∨ ((∀ k, f ≤ k → k < p + 1 → Gl.digit (gi xs k) = true) ∧ (f = 0 ∨ Gl.digit (gi xs (f - 1)) = false))), Gl.turned xs = (acc ++ (xs.take (p + 1)).drop f) ++ Gl.fix (xs.take f).reverse := fun hs => turned_step he (by omega) hs hacc.out
        have HEND := Lib.hid hend
        clear hend
        have hpl : ((xs.take (p + 1)).drop f).length = p + 1 - f := by simp; omega
        have HPL := Lib.hid hpl
        have hsum : acc.length + ((xs.take (p + 1)).drop f).length ≤ 10000000000000 := by omega
        have hpart := RI.part HC.out (Nat.lt_of_lt_of_le hb1 hsz) (f := f) he
        clear hpl
        cases hdp : Gl.digit (gi xs p)
        · have hfp : f = p := by
            rcases hd.out with h | h
            · exact h
            · have := h p hf (by omega); rw [hdp] at this; cases this
          have HT := Lib.hid (HEND.out (Or.inl ⟨hdp, hfp⟩))
          clear hfp
          go_wp2_with (first | (go_at_call 51; refine (rdigit_any _ _).mono ?_; rintro e w' ⟨rfl, rfl⟩) | (at_builtin; refine append_ints rfl _ _ rfl wo w.heap.size u3 acc _ _ _ rfl hown hpart (fun h => by cases h) _ HPL.out.symm rfl hsum hsz ?_; intro v' w2 hown2 hb2 hg2))
          go_roundw
          case rel => exact ⟨f, _, rfl, by omega, hown2, hbw.trans hb2, HT.out, by rw [List.length_append, HPL.out]; have := HAL.out; omega⟩
          case measure => simp [intOf]; omega
        · by_cases hf0 : 0 < f
          · have c2 := HC.out (f - 1) (by omega)
            cases hdq : Gl.digit (gi xs (f - 1))
            · have hall : ∀ k, f ≤ k → k < p + 1 → Gl.digit (gi xs k) = true := by
                rcases hd.out with h | h
                · intro k h1 h2
                  have : k = p := by omega
                  rw [this]; exact hdp
                · exact h
              have HT := Lib.hid (HEND.out (Or.inr ⟨hall, Or.inr hdq⟩))
              clear hall
              go_wp2_with (first | (go_at_call 51; refine (rdigit_any _ _).mono ?_; rintro e w' ⟨rfl, rfl⟩) | (at_builtin; refine append_ints rfl _ _ rfl wo w.heap.size u3 acc _ _ _ rfl hown hpart (fun h => by cases h) _ HPL.out.symm rfl hsum hsz ?_; intro v' w2 hown2 hb2 hg2))
              go_roundw
              case rel => exact ⟨f, _, rfl, by omega, hown2, hbw.trans hb2, HT.out, by rw [List.length_append, HPL.out]; have := HAL.out; omega⟩
              case measure => simp [intOf]; omega
            · go_wp2_with (go_at_call 51; refine (rdigit_any _ _).mono ?_; rintro e w' ⟨rfl, rfl⟩)
              go_roundw
              case rel =>
                refine ⟨f - 1, by go_num, by omega, Or.inr ?_, trivial⟩
                rcases hd.out with h | h
                · intro k h1 h2
                  rcases Nat.lt_or_ge (f - 1) k with h3 | h3
                  · have : k = p := by omega
                    rw [this]; exact hdp
                  · have : k = f - 1 := by omega
                    rw [this]; exact hdq
                · intro k h1 h2
                  rcases Nat.lt_or_ge (f - 1) k with h3 | h3
                  · exact h k (by omega) h2
                  · have : k = f - 1 := by omega
                    rw [this]; exact hdq
              case measure => simp [intOf]; omega
          · obtain rfl : f = 0 := by omega
            have hall : ∀ k, 0 ≤ k → k < p + 1 → Gl.digit (gi xs k) = true := by
              rcases hd.out with h | h
              · intro k h1 h2
                have : k = p := by omega
                rw [this]; exact hdp
              · exact h
            have HT := Lib.hid (HEND.out (Or.inr ⟨hall, Or.inl rfl⟩))
            clear hall
            go_wp2_with (first | (go_at_call 51; refine (rdigit_any _ _).mono ?_; rintro e w' ⟨rfl, rfl⟩) | (at_builtin; refine append_ints rfl _ _ rfl wo w.heap.size u3 acc _ _ _ rfl hown hpart (fun h => by cases h) _ HPL.out.symm rfl hsum hsz ?_; intro v' w2 hown2 hb2 hg2))
            go_roundw
            case rel => exact ⟨0, _, rfl, by omega, hown2, hbw.trans hb2, HT.out, by rw [List.length_append, HPL.out]; have := HAL.out; omega⟩
            case measure => simp [intOf]
    · obtain rfl : e = 0 := by omega
      go_wp2_with fail
      go_ret
      refine ⟨hbw, _, rfl, ?_⟩
      have h1 := hacc.out
      simp [Gl.fix_nil] at h1
      rw [h1]; exact hown
end Go.Proofs.YtlcjfphhogcenaaDoor
