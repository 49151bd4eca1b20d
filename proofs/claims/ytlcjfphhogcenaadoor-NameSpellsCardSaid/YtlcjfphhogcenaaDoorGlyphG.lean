/-
  Walks of layer 6: turn.
-/
import Derived.Test.YtlcjfphhogcenaaDoorGlyphB
import Derived.Test.YtlcjfphhogcenaaDoorBaseC
import Derived.Test.YtlcjfphhogcenaaDoorPlainO
set_option linter.unusedVariables false
set_option linter.unusedSimpArgs false
namespace Go.Proofs.YtlcjfphhogcenaaDoor
open Go.RowKit

/-- The list is turned up to index i. -/
def TurnRel (xs cur : List Int) (i : Nat) : Prop :=
  cur.length = xs.length ∧ ((i ≤ xs.length ∧ Gl.turned xs = cur.take i ++ Gl.fix (cur.drop i)) ∨ (xs.length ≤ i ∧ i ≤ xs.length + 1 ∧ cur = Gl.turned xs))
theorem TurnRel.start (xs : List Int) : TurnRel xs xs.reverse 0 := ⟨by simp, Or.inl ⟨by omega, by simp [Gl.turned]⟩⟩
theorem TurnRel.fin {xs cur : List Int} {i : Nat} (h : TurnRel xs cur i) (hi : ¬ i < xs.length) : cur = Gl.turned xs := by
  obtain ⟨hl, ⟨h1, h2⟩ | ⟨_, _, h3⟩⟩ := h
  · have : i = xs.length := by omega
    subst this
    rw [h2, ← hl, List.take_length, List.drop_length, Gl.fix_nil, List.append_nil]
  · exact h3
theorem TurnRel.one {xs cur : List Int} {i : Nat} (h : TurnRel xs cur i) (hi : i < xs.length) (hd : Gl.digit (gi cur i) = false) : TurnRel xs cur (i + 1) := by
  obtain ⟨hl, ⟨h1, h2⟩ | ⟨h3, _, _⟩⟩ := h
  · refine ⟨hl, Or.inl ⟨by omega, ?_⟩⟩
    rw [h2, drop_gi (by omega), Gl.fix_other hd, take_gi (by omega)]; simp
  · omega
theorem TurnRel.some {xs cur : List Int} {i j : Nat} (h : TurnRel xs cur i) (hij : i < j) (hj : j ≤ xs.length) (hd : ∀ k, i ≤ k → k < j → Gl.digit (gi cur k) = true) (hs : j = xs.length ∨ Gl.digit (gi cur j) = false) :
    TurnRel xs (cur.take i ++ ((cur.drop i).take (j - i)).reverse ++ cur.drop j) (j + 1) := by
  obtain ⟨hl, ⟨h1, h2⟩ | ⟨h3, _, _⟩⟩ := h
  · have e1 : cur.drop i = (cur.drop i).take (j - i) ++ cur.drop j := by
      have := List.take_append_drop (j - i) (cur.drop i)
      rw [List.drop_drop, show i + (j - i) = j by omega] at this
      exact this.symm
    have hz : ((cur.drop i).take (j - i)).length = j - i := by simp; omega
    have hdig : ∀ x ∈ (cur.drop i).take (j - i), Gl.digit x = true := fun x hx => by
      obtain ⟨k, hk, rfl⟩ := List.mem_iff_getElem.1 hx
      have hk' : k < j - i := by omega
      have := hd (i + k) (by omega) (by omega)
      rw [gi_eq (by omega)] at this
      simpa [List.getElem_take, List.getElem_drop] using this
    have hne : (cur.drop i).take (j - i) ≠ [] := by
      intro h0
      have := congrArg List.length h0
      rw [hz] at this; simp at this; omega
    have hhead : ∀ x, (cur.drop j).head? = Option.some x → Gl.digit x = false := fun x hx => by
      rcases hs with hs | hs
      · rw [List.drop_of_length_le (by omega)] at hx; cases hx
      · by_cases hjl : j < cur.length
        · rw [drop_gi hjl] at hx
          injection hx with hx
          rw [← hx]; exact hs
        · rw [List.drop_of_length_le (by omega)] at hx; cases hx
    have e2 := Gl.fix_digits _ _ hdig hne hhead
    rw [← e1] at e2
    have hl2 : (cur.take i ++ ((cur.drop i).take (j - i)).reverse).length = j := by rw [List.length_append, List.length_reverse, hz, List.length_take]; omega
    refine ⟨by rw [List.length_append, hl2, List.length_drop]; omega, ?_⟩
    rw [e2, ← List.append_assoc] at h2
    by_cases hjn : j < xs.length
    · left
      refine ⟨by omega, ?_⟩
      have hnd : Gl.digit (gi cur j) = false := by
        rcases hs with hs | hs
        · omega
        · exact hs
      rw [h2, show cur.drop j = gi cur j :: cur.drop (j + 1) from drop_gi (by omega), Gl.fix_other hnd]
      generalize cur.take i ++ ((cur.drop i).take (j - i)).reverse = P at hl2 ⊢
      subst hl2
      rw [show P ++ gi cur P.length :: cur.drop (P.length + 1) = (P ++ [gi cur P.length]) ++ cur.drop (P.length + 1) by simp, List.take_left' (by simp), List.drop_left' (by simp)]
      simp
    · right
      refine ⟨by omega, by omega, ?_⟩
      rw [h2, show cur.drop j = [] from List.drop_of_length_le (by omega), Gl.fix_nil]
  · omega

theorem splice_ints (cur : List Int) (sp : List Value) (i j : Nat) (zs : List Int) (hz : zs.length = j - i) (hij : i ≤ j) (hj : j ≤ cur.length) :
    splice (cur.map (Value.int .i64) ++ sp) i (zs.map (Value.int .i64)) = (cur.take i ++ zs ++ cur.drop j).map (Value.int .i64) ++ sp := by
  unfold splice
  rw [List.take_append_of_le_length (by simp; omega), List.length_map, hz, show i + (j - i) = j by omega, List.drop_append_of_le_length (by simp; omega), ← List.map_take, ← List.map_drop, ← List.append_assoc, List.map_append, List.map_append]

set_option maxHeartbeats 4000000 in
theorem turn_any (b c : Nat) (sp : List Value) (xs : List Int) (w : World) (hB : Blk w b 3 (xs.map (Value.int .i64) ++ sp)) (hn : xs.length ≤ 10000000000000) (hc : xs.length ≤ c) :
    Calls Tryd.prog 56 #[.slice (some ⟨b, 0, none⟩) xs.length c] w fun e w' => e = .returned (.tuple #[]) ∧ w.grownBy w' (some b) ∧ Blk w' b 3 ((Gl.turned xs).map (Value.int .i64) ++ sp) := by
  go_enter Tryd.func56, Tryd.ntmps56
  go_wp2_with (go_at_call 77; refine (reverseI_any b 0 xs.length c _ xs _ rfl hB (by simp) (by simp) (by omega)).mono ?_)
  first | rintro e w1 rfl hg1 hB1 | rintro e w1 ⟨rfl, hg1, hB1⟩
  have hB1' : Blk w1 b 3 (xs.reverse.map (Value.int .i64) ++ sp) := by
    have := splice_ints xs sp 0 xs.length xs.reverse (by simp) (by omega) (by omega)
    rw [this] at hB1
    simpa using hB1
  clear hB1
  go_wp2_with fail
  go_loopw [2] (fun v wr => ∃ (i : Nat) (cur : List Int), v = .int .i64 i ∧ TurnRel xs cur i ∧ w.grownBy wr (some b) ∧ Blk wr b 3 (cur.map (Value.int .i64) ++ sp)) (fun v _ => xs.length - (intOf v).toNat)
  case atStart => exact ⟨0, _, rfl, TurnRel.start xs, hg1, hB1'⟩
  case round =>
    obtain ⟨i, cur, rfl, hT, hg, hBr⟩ := hrel
    by_cases hi : i < xs.length
    · obtain ⟨wo, rfl⟩ : ∃ wo : World, wo = wr := ⟨_, rfl⟩
      have hcl : cur.length = xs.length := hT.1
      have hcell : ∀ k, k < xs.length → wo.cell? ⟨b, k, none⟩ = some (.int .i64 (gi cur k)) := fun k hk => by
        rw [hBr.cell, List.getElem?_append_left (by simp; omega), List.getElem?_map, List.getElem?_eq_getElem (by omega), gi_eq (by omega)]; rfl
      have HC := Lib.hid hcell
      have HCL := Lib.hid hcl
      clear hcell hcl
      go_wp2_with fail
      go_loopw [3] (fun v wx => ∃ j : Nat, v = .int .i64 j ∧ i ≤ j ∧ j ≤ xs.length ∧ Hid (∀ k, i ≤ k → k < j → Gl.digit (gi cur k) = true) ∧ wo = wx) (fun v _ => xs.length - (intOf v).toNat)
      case atStart => exact ⟨i, rfl, by omega, by omega, fun k h1 h2 => absurd h1 (by omega), rfl⟩
      case round =>
        obtain ⟨j, rfl, hij, hj, hdig, rfl⟩ := hrel
        by_cases hjn : j < xs.length
        · have hcj := HC.out j hjn
          cases hd : Gl.digit (gi cur j)
          · by_cases hgt : i < j
            · have hT2 := hT.some hgt (by omega) hdig.out (Or.inr hd)
              have HT2 := Lib.hid hT2
              have hzl : ((cur.drop i).take (j - i)).length = j - i := by have := HCL.out; simp; omega
              have hstep := reverseI_any b i (j - i) (c - i) _ ((cur.drop i).take (j - i)) wo hzl hBr (by have := HCL.out; simp; omega) (by have := HCL.out; rw [List.drop_append_of_le_length (by simp; omega), List.take_append_of_le_length (by simp; omega), ← List.map_drop, ← List.map_take, hzl]) (by omega)
              rw [splice_ints cur sp i j _ (by rw [List.length_reverse, hzl]) (by omega) (by have := HCL.out; omega)] at hstep
              have HS := Lib.hid hstep
              clear hT2 hstep hzl
              go_wp2_with (first | (go_at_call 52; refine (gdigit_any _ _).mono ?_; rintro e w' ⟨rfl, rfl⟩) | (go_at_call 77; refine HS.out.mono ?_; rintro e w2 ⟨rfl, hg2, hB2⟩))
              go_roundw
              case rel => exact ⟨j + 1, _, by go_num, HT2.out, grownBy_trans hg hg2, hB2⟩
              case measure => simp [intOf]; omega
            · obtain rfl : i = j := by omega
              have HT2 := Lib.hid (hT.one hi hd)
              go_wp2_with (go_at_call 52; refine (gdigit_any _ _).mono ?_; rintro e w' ⟨rfl, rfl⟩)
              go_roundw
              case rel => exact ⟨i + 1, cur, by go_num, HT2.out, hg, hBr⟩
              case measure => simp [intOf]; omega
          · go_wp2_with (go_at_call 52; refine (gdigit_any _ _).mono ?_; rintro e w' ⟨rfl, rfl⟩)
            go_roundw
            case rel => exact ⟨j + 1, by go_num, by omega, by omega, fun k h1 h2 => (Nat.lt_or_eq_of_le (Nat.le_of_lt_succ h2)).elim (hdig.out k h1) (fun e => by rw [e]; exact hd), trivial⟩
            case measure => simp [intOf]; omega
        · obtain rfl : j = xs.length := by omega
          have hT2 := hT.some hi (by omega) hdig.out (Or.inl rfl)
          have HT2 := Lib.hid hT2
          have hzl : ((cur.drop i).take (xs.length - i)).length = xs.length - i := by have := HCL.out; simp; omega
          have hstep := reverseI_any b i (xs.length - i) (c - i) _ ((cur.drop i).take (xs.length - i)) wo hzl hBr (by have := HCL.out; simp; omega) (by have := HCL.out; rw [List.drop_append_of_le_length (by simp; omega), List.take_append_of_le_length (by simp; omega), ← List.map_drop, ← List.map_take, hzl]) (by omega)
          rw [splice_ints cur sp i xs.length _ (by rw [List.length_reverse, hzl]) (by omega) (by have := HCL.out; omega)] at hstep
          have HS := Lib.hid hstep
          clear hT2 hstep hzl
          go_wp2_with (go_at_call 77; refine HS.out.mono ?_; rintro e w2 ⟨rfl, hg2, hB2⟩)
          go_roundw
          case rel => exact ⟨xs.length + 1, _, by go_num, HT2.out, grownBy_trans hg hg2, hB2⟩
          case measure => simp [intOf]; omega
    · have HF := Lib.hid (hT.fin hi)
      go_wp2_with fail
      go_end0
      exact ⟨rfl, hg, by rw [← HF.out]; exact hBr⟩
end Go.Proofs.YtlcjfphhogcenaaDoor
