/-
  Walks of layer 6: Decode and Encode of the reference.
-/
import Derived.Test.YtlcjfphhogcenaaDoorGlyphE
import Derived.Deep.RegionHeld3
set_option linter.unusedVariables false
set_option linter.unusedSimpArgs false
namespace Go.Proofs.YtlcjfphhogcenaaDoor
open Go.RowKit

/-- The value is the string of these bytes. -/
def IsStr (v : Value) (l : List UInt8) : Prop := v = .string ⟨l.toArray⟩
theorem str_append (l m : List UInt8) : Value.string ((⟨l.toArray⟩ : ByteArray) ++ (⟨m.toArray⟩ : ByteArray)) = .string ⟨(l ++ m).toArray⟩ := by
  congr 1
set_option maxHeartbeats 4000000 in
theorem rencode_any (A : Option Addr) (c : Nat) (xs : List Int) (w : World) (hA : RI w A xs) (hx : xs.length ≤ 30000000000000) :
    Calls Tryd.prog 24 #[.slice A xs.length c] w (EncPost (Gl.encode xs) w) := by
  go_enter Tryd.func24, Tryd.ntmps24
  go_wp2_with fail
  go_loopw [4, 5] (fun s i wr => ∃ k : Nat, k ≤ xs.length ∧ i = .int .i64 k ∧ IsStr s (Gl.units (xs.take k)) ∧ Gl.valid (xs.take k) = true ∧ Below w.heap.size w wr) (fun _ i _ => xs.length - (intOf i).toNat)
  case atStart => exact ⟨0, by omega, rfl, rfl, rfl, Below.refl _ _⟩
  case round =>
    obtain ⟨k, hk, rfl, hstr, hval, hbw⟩ := hrel
    unfold IsStr at hstr
    subst hstr
    have HV := Lib.hid hval
    clear hval
    have hsz := hbw.size
    by_cases hlt : k < xs.length
    · obtain ⟨b1, o1, rfl, hb1, hc1⟩ := hA k hlt
      have c1 := (hbw.cell (p := ⟨b1, o1 + k, none⟩) hb1).trans (hc1 k hlt)
      clear hc1 hA
      by_cases h0 : Gl.script (gi xs k) < 0
      · have HF := Lib.hid (Gl.valid_take_bad hlt h0)
        go_wp2_with (go_at_call 26; refine (rscript_any _ _).mono ?_; rintro e w1 ⟨rfl, rfl⟩)
        go_ret2
        exact ⟨by rw [HF.out]; rfl, hbw⟩
      · have hbd := Gl.script_bounds (r := gi xs k) (by omega)
        have h0' : 0 ≤ Gl.script (gi xs k) := by omega
        have HU := Lib.hid (Gl.units_take hlt)
        have hul := Gl.units_len (xs.take k)
        have htl : (xs.take k).length ≤ k := List.length_take_le _ _
        have hun := Gl.unit_len_bd (gi xs k)
        have hfit : ¬ 9223372036854775807 < (Gl.units (xs.take k)).length + (Gl.unit (gi xs k)).length := by omega
        clear hul htl hun
        go_wp2_with (first | (go_at_call 26; refine (rscript_any _ _).mono ?_; rintro e w1 ⟨rfl, rfl⟩) | (go_at_call 48; refine (runit_any _ _ (by omega) (by omega)).mono ?_; rintro e w1 ⟨rfl, hb1⟩))
        go_roundw
        case rel =>
          refine ⟨k + 1, by omega, by go_num, ?_, Gl.valid_take hlt HV.out h0', hbw.trans (hb1.mono hsz)⟩
          rw [HU.out]
          exact str_append _ _
        case measure => simp [intOf]; omega
    · have e1 : xs.take k = xs := List.take_of_length_le (by omega)
      have HF : Hid (Gl.encode xs = some (Gl.units (xs.take k))) := by
        have := HV.out
        rw [e1] at this ⊢
        show Gl.encode xs = _
        unfold Gl.encode; rw [if_pos this]
      clear e1
      go_wp2_with fail
      go_ret2
      exact ⟨by rw [HF.out]; rfl, hbw⟩

theorem extract_take (s : ByteArray) (i n : Nat) : (s.extract i (i + n)).data.toList = (s.data.toList.drop i).take n := by
  rw [Lib.extract_data, show i + n - i = n by omega]
/-- No shorter piece encodes a code point. -/
def NoFit (l : List UInt8) (m : Nat) : Prop := ∀ j, 1 ≤ j → j < m → Gl.fits j l = false

theorem first_fit {l : List UInt8} {m : Nat} (hn : NoFit l m) (hm1 : 1 ≤ m) (hm3 : m ≤ 3) (hf : Gl.fits m l = true) : Gl.first l = some (Gl.value (l.take m)) := by
  unfold Gl.first
  obtain rfl | rfl | rfl : m = 1 ∨ m = 2 ∨ m = 3 := by omega
  · rw [if_pos hf]
  · rw [if_neg (by rw [hn 1 (by omega) (by omega)]; decide), if_pos hf]
  · rw [if_neg (by rw [hn 1 (by omega) (by omega)]; decide), if_neg (by rw [hn 2 (by omega) (by omega)]; decide), if_pos hf]
theorem first_nofit {l : List UInt8} {m : Nat} (hn : NoFit l m) (hm : 4 ≤ m ∨ l.length < m) : Gl.first l = none := by
  have h : ∀ j, 1 ≤ j → j ≤ 3 → Gl.fits j l = false := fun j h1 h3 => by
    by_cases hj : j < m
    · exact hn j h1 hj
    · unfold Gl.fits
      have : ¬ j ≤ l.length := by omega
      simp [this]
  unfold Gl.first
  rw [if_neg (by rw [h 1 (by omega) (by omega)]; decide), if_neg (by rw [h 2 (by omega) (by omega)]; decide), if_neg (by rw [h 3 (by omega) (by omega)]; decide)]
theorem noFit_succ {l : List UInt8} {m : Nat} (hn : NoFit l m) (hf : Gl.fits m l = false) : NoFit l (m + 1) := fun j h1 h2 => by
  rcases Nat.lt_or_eq_of_le (Nat.le_of_lt_succ h2) with h | rfl
  · exact hn j h1 h
  · exact hf
theorem rdec_some {s : ByteArray} {pos m : Nat} (h : pos < s.size) (hn : NoFit (s.data.toList.drop pos) m) (hm1 : 1 ≤ m) (hm3 : m ≤ 3) (hf : Gl.fits m (s.data.toList.drop pos) = true) (acc : List Int)
    (ha : Gl.decode s.data.toList = (Gl.decode (s.data.toList.drop pos)).map (acc ++ ·)) :
    Gl.decode s.data.toList = (Gl.decode (s.data.toList.drop (pos + m))).map ((acc ++ [Gl.value ((s.data.toList.drop pos).take m)]) ++ ·) := by
  have hl : 0 < (s.data.toList.drop pos).length := by rw [List.length_drop]; have := Lib.size_eq s; omega
  have h1 := first_fit hn hm1 hm3 hf
  rw [ha, Gl.decode_step hl, h1]
  simp only
  rw [List.drop_drop, Gl.fits_len hf, Option.map_map]
  congr 1
  funext L
  simp
theorem rdec_none {s : ByteArray} {pos m : Nat} (h : pos < s.size) (hn : NoFit (s.data.toList.drop pos) m) (hm : 4 ≤ m ∨ s.size < pos + m) (acc : List Int)
    (ha : Gl.decode s.data.toList = (Gl.decode (s.data.toList.drop pos)).map (acc ++ ·)) : Gl.decode s.data.toList = none := by
  have hl : 0 < (s.data.toList.drop pos).length := by rw [List.length_drop]; have := Lib.size_eq s; omega
  rw [ha, Gl.decode_step hl, first_nofit hn (by rw [List.length_drop]; have := Lib.size_eq s; omega)]; rfl
theorem fits_of {s : ByteArray} {pos m : Nat} (hps : pos + m ≤ s.size) (r : Int) (hr : Gl.value ((s.data.toList.drop pos).take m) = r) :
    Gl.fits m (s.data.toList.drop pos) = (decide (0 ≤ Gl.script r) && decide (Gl.unit r = (s.data.toList.drop pos).take m)) := by
  unfold Gl.fits
  have : m ≤ (s.data.toList.drop pos).length := by rw [List.length_drop]; have := Lib.size_eq s; omega
  rw [hr]
  have h2 : decide (m ≤ (s.data.toList.drop pos).length) = true := by simpa using this
  rw [h2, Bool.true_and]
theorem ownsRow_drewN {w : World} {B : Nat} {v : Value} {xs : List Int} (h : OI w B v xs) {n : Nat} : OI (w.drewN n) B v xs := h
theorem rscript_q (r : Int) (w : World) :
    Calls Tryd.prog 26 #[.int .i64 r] w fun e w' => e = .returned (.int .i64 (Gl.script r)) ∧ w' = w := (rscript_any r w).mono fun _ _ h => ⟨h.1, h.2.symm⟩

set_option maxHeartbeats 4000000 in
theorem rdecode_any (s : ByteArray) (w : World) (hs : s.size ≤ 10000000000000) :
    Calls Tryd.prog 20 #[.string s] w (DecPost (Gl.decode s.data.toList) w) := by
  go_enter Tryd.func20, Tryd.ntmps20
  go_wp2_with fail
  go_loopw [4, 5] (fun v i wr => ∃ (pos : Nat) (acc : List Int), i = .int .i64 pos ∧ pos ≤ s.size ∧ OI wr w.heap.size v acc ∧ Below w.heap.size w wr ∧ Hid (Gl.decode s.data.toList = (Gl.decode (s.data.toList.drop pos)).map (acc ++ ·)) ∧ acc.length ≤ pos) (fun _ i _ => s.size - (intOf i).toNat)
  case atStart => exact ⟨0, [], rfl, by omega, OI.nil _ _, Below.refl _ _, by simp [Hid], by simp⟩
  case round =>
    obtain ⟨pos, acc, rfl, hpos, hown, hbw, hacc, hal⟩ := hrel
    by_cases hp : pos < s.size
    · obtain ⟨wo, rfl⟩ : ∃ wo : World, wo = wr := ⟨_, rfl⟩
      go_wp2_with fail
      go_loopw [4, 6, 7] (fun v u n wr => ∃ m : Nat, 1 ≤ m ∧ m ≤ 4 ∧ Below w.heap.size w wr ∧ NoFit (s.data.toList.drop pos) m ∧
        ((u = .int .i64 0 ∧ n = .int .i64 m ∧ OI wr w.heap.size v acc) ∨
         (u = .int .i64 m ∧ n = .int .i64 (m + 1) ∧ m ≤ 3 ∧ Gl.fits m (s.data.toList.drop pos) = true ∧ OI wr w.heap.size v (acc ++ [Gl.value ((s.data.toList.drop pos).take m)])))) (fun _ _ n _ => 5 - (intOf n).toNat)
      case atStart => exact ⟨1, by omega, by omega, hbw, fun j h1 h2 => absurd h1 (by omega), Or.inl ⟨rfl, rfl, hown⟩⟩
      case round =>
        obtain ⟨m, hm1, hm4, hbi, hno, hcase⟩ := hrel
        rcases hcase with ⟨rfl, rfl, hown2⟩ | ⟨rfl, rfl, hm3, hfit, hown2⟩
        · by_cases hm : m ≤ 3 ∧ pos + m ≤ s.size
          · obtain ⟨hm3, hps⟩ := hm
            have hxl : (s.extract pos (pos + m)).size = m := by simp; omega
            have hcon := rvalue_any (s.extract pos (pos + m))
            have hxe := extract_take s pos m
            rw [hxe, hxl] at hcon
            have hfo := fits_of hps _ rfl
            generalize hr : Gl.value ((s.data.toList.drop pos).take m) = r at *
            have HR := Lib.hid hr
            have HXE := Lib.hid hxe
            have HFO := Lib.hid hfo
            have HC := Lib.hid hcon
            clear hr hxe hxl hfo hcon
            by_cases h0 : 0 ≤ Gl.script r
            · have h0' : decide (0 ≤ Gl.script r) = true := by simpa using h0
              have hbd := Gl.script_bounds h0
              have hte : (s.extract pos (pos + m)).toList = (s.data.toList.drop pos).take m := by rw [Lib.toList_data, HXE.out]
              by_cases hu : Gl.unit r = (s.data.toList.drop pos).take m
              · have hub : (Gl.unit r == (s.extract pos (pos + m)).toList) = true := by rw [hte]; simpa using hu
                have HFT : Hid (Gl.fits m (s.data.toList.drop pos) = true) := by show _ = true; rw [HFO.out, h0']; simpa using hu
                clear hu hte
                go_wp2_with (go_at_call 47; refine (HC.out _ (by omega) (by omega)).mono ?_; rintro e w1 ⟨rfl, hb1⟩)
                have k1 : IntKind.i64.wrap ((pos : Int) + (m : Int)) = (pos : Int) + (m : Int) := IntWalk.i64_in _ ⟨by omega, by omega⟩
                have k2 : (0 : Int) ≤ (pos : Int) + (m : Int) := by omega
                have k3 : ((pos : Int) + (m : Int)).toNat = pos + m := by omega
                have k4 : (pos : Int) ≤ (pos : Int) + (m : Int) := by omega
                have k5 : (pos : Int) + (m : Int) ≤ (s.size : Int) := by omega
                have k6 : (0 : Int) ≤ (pos : Int) := by omega
                go_region_held3 (fun _ => True) (trivial) (first | (go_at_call 26; refine (rscript_any _ _).mono ?_; rintro e w' ⟨rfl, rfl⟩) | (go_at_call 48; refine (runit_any _ _ (by omega) (by omega)).mono ?_; rintro e w2 ⟨rfl, hb2⟩))
                clear k1 k2 k3 k4 k5 k6
                have hb2 : Below w1.heap.size w1 w2 := ⟨hb2.os, hb2.tape, hb2.output, hb2.size, hb2.block⟩
                have hown3 : OI w2 w.heap.size u4 acc := (hown2.below hb1 (Nat.le_refl _)).below hb2 (Nat.le_refl _)
                have hz1 := hb1.size
                have hz2 := hb2.size
                have hz0 := hbi.size
                go_wp2_with (at_builtin; refine append_int rfl _ _ rfl w2 w.heap.size u4 acc r rfl hown3 rfl (by omega) (by omega) ?_; intro v' w3 hown4 hb3 hg3)
                go_roundw
                case rel => exact ⟨m, by omega, by omega, ((hbi.trans (hb1.mono hbi.size)).trans (hb2.mono (by omega))).trans hb3, hno, Or.inr ⟨rfl, rfl, hm3, HFT.out, by rw [HR.out]; exact hown4⟩⟩
                case measure => simp [intOf]; omega
              · have hub : (Gl.unit r == (s.extract pos (pos + m)).toList) = false := by rw [hte]; simpa using hu
                have HN := Lib.hid (noFit_succ hno (by rw [HFO.out, h0']; simpa using hu))
                clear hu hte
                go_wp2_with (go_at_call 47; refine (HC.out _ (by omega) (by omega)).mono ?_; rintro e w1 ⟨rfl, hb1⟩)
                have k1 : IntKind.i64.wrap ((pos : Int) + (m : Int)) = (pos : Int) + (m : Int) := IntWalk.i64_in _ ⟨by omega, by omega⟩
                have k2 : (0 : Int) ≤ (pos : Int) + (m : Int) := by omega
                have k3 : ((pos : Int) + (m : Int)).toNat = pos + m := by omega
                have k4 : (pos : Int) ≤ (pos : Int) + (m : Int) := by omega
                have k5 : (pos : Int) + (m : Int) ≤ (s.size : Int) := by omega
                have k6 : (0 : Int) ≤ (pos : Int) := by omega
                go_region_held3 (fun _ => True) (trivial) (first | (go_at_call 26; refine (rscript_any _ _).mono ?_; rintro e w' ⟨rfl, rfl⟩) | (go_at_call 48; refine (runit_any _ _ (by omega) (by omega)).mono ?_; rintro e w2 ⟨rfl, hb2⟩))
                clear k1 k2 k3 k4 k5 k6
                have hb2 : Below w1.heap.size w1 w2 := ⟨hb2.os, hb2.tape, hb2.output, hb2.size, hb2.block⟩
                have hown3 : OI w2 w.heap.size u4 acc := (hown2.below hb1 (Nat.le_refl _)).below hb2 (Nat.le_refl _)
                have hz1 := hb1.size
                have hz0 := hbi.size
                go_wp2_with fail
                go_roundw
                case rel => exact ⟨m + 1, by omega, by omega, (hbi.trans (hb1.mono hbi.size)).trans (hb2.mono (by omega)), HN.out, Or.inl ⟨rfl, by go_num, hown3⟩⟩
                case measure => simp [intOf]; omega
            · have h0' : decide (0 ≤ Gl.script r) = false := by simpa using h0
              have HN := Lib.hid (noFit_succ hno (by rw [HFO.out, h0']; rfl))
              go_wp2_with (go_at_call 47; refine (HC.out _ (by omega) (by omega)).mono ?_; rintro e w1 ⟨rfl, hb1⟩)
              go_quiet ((go_at_call 26; exact Calls.quiet_of_same (rscript_q _ _)))
              go_wp2_with fail
              go_roundw
              case rel => exact ⟨m + 1, by omega, by omega, below_drewN (hbi.trans (hb1.mono hbi.size)) _, HN.out, Or.inl ⟨rfl, by go_num, ownsRow_drewN (hown2.below hb1 (Nat.le_refl _))⟩⟩
              case measure => simp [intOf]; omega
          · have HF := Lib.hid (rdec_none hp hno (by omega) acc hacc.out)
            by_cases hm3 : m ≤ 3
            · have hps : s.size < pos + m := by omega
              clear hm
              go_wp2_with fail
              go_ret2
              exact ⟨hbi, .slice none 0 0, by rw [HF.out]; exact OI.nil _ _, by rw [HF.out]; rfl⟩
            · clear hm
              obtain rfl : m = 4 := by omega
              go_wp2_with fail
              go_ret2
              exact ⟨hbi, .slice none 0 0, by rw [HF.out]; exact OI.nil _ _, by rw [HF.out]; rfl⟩
        · have hz : ((m : Int) == 0) = false := by simp; omega
          have hacc2 := Lib.hid (rdec_some hp hno hm1 hm3 hfit acc hacc.out)
          have hle : pos + m ≤ s.size := by have := (Gl.fits_iff.1 hfit).1; rw [List.length_drop] at this; have := Lib.size_eq s; omega
          go_wp2_with fail
          all_goals
            go_roundw
            case rel => exact ⟨pos + m, acc ++ [Gl.value ((s.data.toList.drop pos).take m)], by go_num, hle, hown2, hbi, hacc2, by simp; omega⟩
            case measure => simp [intOf]; omega
    · have HF := Lib.hid (dec_end hp acc hacc.out)
      go_wp2_with fail
      go_ret2
      exact ⟨hbw, _, by rw [HF.out]; exact hown, by rw [HF.out]; rfl⟩
end Go.Proofs.YtlcjfphhogcenaaDoor
