/-
  Walks of layer 6: Order of the program.
-/
import Derived.Test.YtlcjfphhogcenaaDoorGlyphK
set_option linter.unusedVariables false
set_option linter.unusedSimpArgs false
namespace Go.Proofs.YtlcjfphhogcenaaDoor
open Go.RowKit

theorem gb_lefts {xs : List Int} {k : Nat} (h : k < xs.length) : gb (Gl.lefts xs) k = Gl.left xs k := by simp [gb, Gl.lefts, h]
theorem flag_at {w : World} {m : Nat} {xs : List Int} (h : Blk w m 4 ((Gl.lefts xs).map Value.bool)) {k : Nat} (hk : k < xs.length) : w.cell? ⟨m, k, none⟩ = some (.bool (Gl.left xs k)) := by
  rw [h.cell, List.getElem?_map, List.getElem?_eq_getElem (by rw [Gl.lefts_length]; exact hk)]
  simp [Gl.lefts]
/-- The next run. -/
def runAt (xs : List Int) (i j : Nat) : List Int := if Gl.left xs i then Gl.turned ((xs.take j).drop i) else (xs.take j).drop i
theorem runs_step {xs : List Int} {acc : List (List Int)} {f i j : Nat} (hi : i < xs.length) (hij : i + 1 ≤ j) (hj : j ≤ xs.length) (hd : ∀ k, i + 1 ≤ k → k < j → Gl.left xs k = Gl.left xs i) (hs : j = xs.length ∨ Gl.left xs j ≠ Gl.left xs i)
    (h : Gl.runs xs = acc ++ Gl.runsN xs (f + 1) i) : Gl.runs xs = (acc ++ [runAt xs i j]) ++ Gl.runsN xs f j := by
  rw [h]
  have e : Gl.runEnd (fun k => Gl.left xs k == Gl.left xs i) xs.length xs.length (i + 1) = j := by
    apply Gl.runEnd_stop
    · exact hij
    · exact hj
    · omega
    · intro k h1 h2; simp [hd k h1 h2]
    · rcases hs with hs | hs
      · exact Or.inl hs
      · exact Or.inr (by simp [hs])
  simp only [Gl.runsN, if_pos hi, e]
  simp [runAt]
theorem runs_end {xs : List Int} {acc : List (List Int)} {f i : Nat} (hi : ¬ i < xs.length) (h : Gl.runs xs = acc ++ Gl.runsN xs f i) : Gl.runs xs = acc := by
  rw [h]
  cases f with
  | zero => simp [Gl.runsN]
  | succ f => simp [Gl.runsN, hi]
theorem runAt_length {xs : List Int} {i j : Nat} (hj : j ≤ xs.length) : (runAt xs i j).length = j - i := by
  unfold runAt; split
  · rw [Gl.turned_length]; simp; omega
  · simp; omega
theorem OI.blk {w : World} {B : Nat} {v : Value} {xs : List Int} (h : OI w B v xs) (hne : 0 < xs.length) : ∃ g cap sp, v = .slice (some ⟨g, 0, none⟩) xs.length cap ∧ B ≤ g ∧ xs.length ≤ cap ∧ cap ≤ maxLen ∧ Blk w g 3 (xs.map (Value.int .i64) ++ sp) ∧ xs.length + sp.length = cap := by
  rcases h.2 with ⟨_, hn⟩ | ⟨g, cap, cur, hv, hg, hh, hn, hm, hsz, hcur⟩
  · omega
  · refine ⟨g, cap, cur.toList.drop xs.length, hv, hg, hn, hm, ?_, by simp; omega⟩
    have := List.take_append_drop xs.length cur.toList
    rw [Nat.mul_one] at hcur
    rw [hcur] at this
    rw [this]
    simpa [Blk] using hh
theorem OI.of_blk {w : World} {B g cap : Nat} {xs : List Int} {sp : List Value} (h : Blk w g 3 (xs.map (Value.int .i64) ++ sp)) (hB : B ≤ g) (hm : cap ≤ maxLen) (hc : xs.length + sp.length = cap) : OI w B (.slice (some ⟨g, 0, none⟩) xs.length cap) xs :=
  ⟨by simp, Or.inr ⟨g, cap, _, rfl, hB, h, by omega, hm, by simp; omega, by simp⟩⟩

theorem turn_n (b n c : Nat) (sp : List Value) (xs : List Int) (w : World) (hxn : xs.length = n) (hB : Blk w b 3 (xs.map (Value.int .i64) ++ sp)) (hn : n ≤ 10000000000000) (hc : n ≤ c) :
    Calls Tryd.prog 56 #[.slice (some ⟨b, 0, none⟩) n c] w fun e w' => e = .returned (.tuple #[]) ∧ w.grownBy w' (some b) ∧ Blk w' b 3 ((Gl.turned xs).map (Value.int .i64) ++ sp) := by
  subst hxn
  exact turn_any b c sp xs w hB hn hc
theorem concat_n (A : Option Addr) (n c : Nat) (xss : List (List Int)) (w : World) (hn : xss.length = n) (hA : RL w A xss) (hx : xss.flatten.length ≤ 10000000000000) (hx2 : n ≤ 10000000000000) :
    Calls Tryd.prog 58 #[.slice A n c] w (ListPost xss.flatten w) := by
  subst hn
  exact concat_any A c xss w hA hx hx2
/-- slices.Clone of a part of a slice of integers that is not empty. -/
theorem clone_n (b off n c : Nat) (zs : List Int) (w : World) (hzn : zs.length = n) (hn0 : 0 < n) (hn : n ≤ 10000000000000) (hc : ∀ j, j < n → w.cell? ⟨b, off + j, none⟩ = some (.int .i64 (gi zs j))) :
    Calls Tryd.prog 55 #[.slice (some ⟨b, off, none⟩) n c] w fun e w' => ∃ g cap sp, e = .returned (.slice (some ⟨g, 0, none⟩) n cap) ∧ w.heap.size ≤ g ∧ n ≤ cap ∧ cap ≤ maxLen ∧ Blk w' g 3 (zs.map (Value.int .i64) ++ sp) ∧ n + sp.length = cap ∧ Below w.heap.size w w' := by
  subst hzn
  refine (Tryd.slices_Clone_int b off zs.length c zs w (Nat.le_refl _) (by omega) (fun j hj => by rw [hc j hj]; rfl)).mono ?_
  rintro e w' ⟨v', rfl, hown, _, hb⟩
  rw [List.take_length] at hown
  obtain ⟨g, cap, sp, rfl, h1, h2, h3, h4, h5⟩ := OI.blk hown hn0
  exact ⟨g, cap, sp, rfl, h1, h2, h3, h4, h5, hb⟩
theorem flat_snoc (acc : List (List Int)) (r : List Int) : (acc ++ [r]).flatten.length = acc.flatten.length + r.length := by rw [List.flatten_append, List.length_append]; simp

set_option maxHeartbeats 8000000 in
theorem order_any (A : Option Addr) (c : Nat) (xs : List Int) (w : World) (ht : Gl.Tab w) (hA : RI w A xs) (hx : xs.length ≤ 100000000000) (hc : xs.length ≤ c) :
    Calls Tryd.prog 31 #[.slice A xs.length c] w (ListPost (Gl.order xs) w) := by
  go_enter Tryd.func31, Tryd.ntmps31
  go_wp2_with (go_at_call 54; refine (directions_any A c xs _ ht hA (by omega)).mono ?_)
  rintro e w1 ⟨hb1, m, hm, hfl, rfl⟩
  have hml := hfl.lt
  have hsz1 := hb1.size
  go_wp2_with fail
  go_loopw [5, 6] (fun v iv wr => ∃ (i f : Nat) (acc : List (List Int)), iv = .int .i64 i ∧ i ≤ xs.length ∧ OR wr w1.heap.size v acc ∧ Below w1.heap.size w1 wr ∧ Hid (Gl.runs xs = acc ++ Gl.runsN xs f i) ∧ xs.length ≤ i + f ∧ acc.length ≤ i ∧ acc.flatten.length ≤ i) (fun _ iv _ => xs.length - (intOf iv).toNat)
  case atStart => exact ⟨0, xs.length, [], rfl, by omega, OR.nil _ _, Below.refl _ _, by simp [Hid, Gl.runs], by omega, by simp, by simp⟩
  case round =>
    obtain ⟨i, f, acc, rfl, hi, hown, hbw, hacc, hf, hal, hfl2⟩ := hrel
    by_cases hlt : i < xs.length
    · obtain ⟨wo, rfl⟩ : ∃ wo : World, wo = wr := ⟨_, rfl⟩
      have hflo := hfl.below hbw hml
      have HFO := Lib.hid hflo
      clear hflo
      go_wp2_with fail
      go_loopw [7] (fun jv wx => ∃ j : Nat, jv = .int .i64 j ∧ i + 1 ≤ j ∧ j ≤ xs.length ∧ Hid (∀ k, i + 1 ≤ k → k < j → Gl.left xs k = Gl.left xs i) ∧ Below wo.heap.size wo wx) (fun jv _ => xs.length - (intOf jv).toNat)
      case atStart => exact ⟨i + 1, by go_num, by omega, by omega, fun k h1 h2 => absurd h1 (by omega), Below.refl _ _⟩
      case round =>
        obtain ⟨j, rfl, hij, hj, hd, hbi⟩ := hrel
        have f1 := flag_at (HFO.out.below hbi (Nat.lt_of_lt_of_le hml hbw.size)) hlt
        by_cases hjn : j < xs.length
        · have f2 := flag_at (HFO.out.below hbi (Nat.lt_of_lt_of_le hml hbw.size)) hjn
          have q0 : (0 : Int) ≤ (j : Int) := by omega
          have q1 : (j : Int) < (xs.length : Int) := by omega
          have q2 : (0 : Int) ≤ (i : Int) := by omega
          have q3 : (i : Int) < (xs.length : Int) := by omega
          have q4 : decide ((j : Int) < (xs.length : Int)) = true := by simpa using hjn
          by_cases he : Gl.left xs j = Gl.left xs i
          · have he1 : (Gl.left xs j == Gl.left xs i) = true := by simp [he]
            have HE := Lib.hid he
            clear he
            go_wp2_with fail
            go_quiet (fail)
            go_wp2_with fail
            go_roundw
            case rel => exact ⟨j + 1, by go_num, by omega, by omega, fun k h1 h2 => (Nat.lt_or_eq_of_le (Nat.le_of_lt_succ h2)).elim (hd.out k h1) (fun e => by rw [e]; exact HE.out), below_drewN hbi _⟩
            case measure => simp [intOf]; omega
          · have he1 : (Gl.left xs j == Gl.left xs i) = false := by simp [he]
            have hs : j = xs.length ∨ Gl.left xs j ≠ Gl.left xs i := Or.inr he
            have HS := Lib.hid hs
            clear hs he
            go_wp2_with fail
            go_quiet (fail)
            have hby := below_drewN hbi nq
            generalize wr.drewN nq = wy at *
            clear q0 q1 q2 q3 q4 f1 f2 hbi
            have hs := HS.out
            have hzo := hbw.size
            have hzy := hby.size
            obtain ⟨b1, o1, rfl, hbb, hc1⟩ := hA i hlt
            have hb01 : Below w.heap.size w wy := (hb1.trans (hbw.mono hsz1)).trans (hby.mono (by omega))
            have hcl : ∀ q, q < j - i → wy.cell? ⟨b1, o1 + i + q, none⟩ = some (.int .i64 (gi ((xs.take j).drop i) q)) := fun q hq => by
              rw [gi_drop, gi_take (by omega), Nat.add_assoc]
              exact (hb01.cell (p := ⟨b1, o1 + (i + q), none⟩) hbb).trans (hc1 (i + q) (by omega))
            have HCL := Lib.hid hcl
            have hzl : ((xs.take j).drop i).length = j - i := by simp; omega
            have HZL := Lib.hid hzl
            have hfy := HFO.out.below hby (by omega)
            have HFY := Lib.hid hfy
            have hown2 := hown.below hby (Nat.le_refl _)
            obtain ⟨f', rfl⟩ : ∃ f', f = f' + 1 := ⟨f - 1, by omega⟩
            have HST := Lib.hid (runs_step hlt hij hj hd.out hs hacc.out)
            have HRL := Lib.hid (runAt_length (i := i) hj)
            have hij2 : i < j := by omega
            clear hcl hzl hfy hc1
            go_wp2_with (go_at_call 55; refine (clone_n b1 (o1 + i) (j - i) (c - i) _ _ HZL.out (by omega) (by omega) HCL.out).mono ?_)
            first | rintro e w2 g cap sp rfl hg1 hg2 hg3 hblk hsp hb2 | rintro e w2 ⟨g, cap, sp, rfl, hg1, hg2, hg3, hblk, hsp, hb2⟩
            have HSP := Lib.hid hsp
            clear hsp
            unfold maxLen at hg3
            have hz2 := hb2.size
            have c2 := flag_at (HFY.out.below hb2 (by omega)) hlt
            cases hL : Gl.left xs i
            · have hro : OI w2 w1.heap.size (.slice (some ⟨g, 0, none⟩) (j - i) cap) (runAt xs i j) := by
                have h := OI.of_blk (B := w1.heap.size) (xs := (xs.take j).drop i) (g := g) (cap := cap) hblk (by omega) (by unfold maxLen; exact hg3) (by rw [HZL.out]; exact HSP.out)
                rw [HZL.out] at h
                unfold runAt; rw [hL]; exact h
              have hor := hown2.below hb2 (Nat.le_refl _)
              go_wp2_with (at_builtin; refine append_run rfl _ _ rfl w2 w1.heap.size u5 acc (some ⟨g, 0, none⟩) (j - i) cap (runAt xs i j) rfl hor hro rfl (by omega) (by omega) ?_; intro v' w3 hown3 hb3)
              go_roundw
              case rel => exact ⟨j, f', acc ++ [runAt xs i j], rfl, hj, hown3, (hbw.trans ((hby.trans (hb2.mono (by omega))).mono (by omega))).trans hb3, HST.out, by omega, by simp; omega, by rw [flat_snoc, HRL.out]; omega⟩
              case measure => simp [intOf]; omega
            · go_wp2_with (go_at_call 56; refine (turn_n g (j - i) cap sp _ _ HZL.out hblk (by omega) hg2).mono ?_)
              first | rintro e w3 rfl hg3' hblk3 | rintro e w3 ⟨rfl, hg3', hblk3⟩
              have hb3 : Below wy.heap.size wy w3 := hb2.trans (below_grownBy hg3' (by omega) (by omega))
              have hro : OI w3 w1.heap.size (.slice (some ⟨g, 0, none⟩) (j - i) cap) (runAt xs i j) := by
                have h := OI.of_blk (B := w1.heap.size) (xs := Gl.turned ((xs.take j).drop i)) (g := g) (cap := cap) hblk3 (by omega) (by unfold maxLen; exact hg3) (by rw [Gl.turned_length, HZL.out]; exact HSP.out)
                rw [Gl.turned_length, HZL.out] at h
                unfold runAt; rw [hL]; exact h
              have hor := hown2.below hb3 (Nat.le_refl _)
              have hz3 := hb3.size
              go_wp2_with (at_builtin; refine append_run rfl _ _ rfl w3 w1.heap.size u5 acc (some ⟨g, 0, none⟩) (j - i) cap (runAt xs i j) rfl hor hro rfl (by omega) (by omega) ?_; intro v' w4 hown4 hb4)
              go_roundw
              case rel => exact ⟨j, f', acc ++ [runAt xs i j], rfl, hj, hown4, (hbw.trans ((hby.trans (hb3.mono (by omega))).mono (by omega))).trans hb4, HST.out, by omega, by simp; omega, by rw [flat_snoc, HRL.out]; omega⟩
              case measure => simp [intOf]; omega
        · have hs : j = xs.length ∨ Gl.left xs j ≠ Gl.left xs i := Or.inl (by omega)
          have q4 : decide ((j : Int) < (xs.length : Int)) = false := by simp; omega
          have HS := Lib.hid hs
          clear hs
          go_wp2_with fail
          go_quiet (fail)
          have hby := below_drewN hbi nq
          generalize wr.drewN nq = wy at *
          clear q4 f1 hbi
          have hs := HS.out
          have hzo := hbw.size
          have hzy := hby.size
          obtain ⟨b1, o1, rfl, hbb, hc1⟩ := hA i hlt
          have hb01 : Below w.heap.size w wy := (hb1.trans (hbw.mono hsz1)).trans (hby.mono (by omega))
          have hcl : ∀ q, q < j - i → wy.cell? ⟨b1, o1 + i + q, none⟩ = some (.int .i64 (gi ((xs.take j).drop i) q)) := fun q hq => by
            rw [gi_drop, gi_take (by omega), Nat.add_assoc]
            exact (hb01.cell (p := ⟨b1, o1 + (i + q), none⟩) hbb).trans (hc1 (i + q) (by omega))
          have HCL := Lib.hid hcl
          have hzl : ((xs.take j).drop i).length = j - i := by simp; omega
          have HZL := Lib.hid hzl
          have hfy := HFO.out.below hby (by omega)
          have HFY := Lib.hid hfy
          have hown2 := hown.below hby (Nat.le_refl _)
          obtain ⟨f', rfl⟩ : ∃ f', f = f' + 1 := ⟨f - 1, by omega⟩
          have HST := Lib.hid (runs_step hlt hij hj hd.out hs hacc.out)
          have HRL := Lib.hid (runAt_length (i := i) hj)
          have hij2 : i < j := by omega
          clear hcl hzl hfy hc1
          go_wp2_with (go_at_call 55; refine (clone_n b1 (o1 + i) (j - i) (c - i) _ _ HZL.out (by omega) (by omega) HCL.out).mono ?_)
          first | rintro e w2 g cap sp rfl hg1 hg2 hg3 hblk hsp hb2 | rintro e w2 ⟨g, cap, sp, rfl, hg1, hg2, hg3, hblk, hsp, hb2⟩
          have HSP := Lib.hid hsp
          clear hsp
          unfold maxLen at hg3
          have hz2 := hb2.size
          have c2 := flag_at (HFY.out.below hb2 (by omega)) hlt
          cases hL : Gl.left xs i
          · have hro : OI w2 w1.heap.size (.slice (some ⟨g, 0, none⟩) (j - i) cap) (runAt xs i j) := by
              have h := OI.of_blk (B := w1.heap.size) (xs := (xs.take j).drop i) (g := g) (cap := cap) hblk (by omega) (by unfold maxLen; exact hg3) (by rw [HZL.out]; exact HSP.out)
              rw [HZL.out] at h
              unfold runAt; rw [hL]; exact h
            have hor := hown2.below hb2 (Nat.le_refl _)
            go_wp2_with (at_builtin; refine append_run rfl _ _ rfl w2 w1.heap.size u5 acc (some ⟨g, 0, none⟩) (j - i) cap (runAt xs i j) rfl hor hro rfl (by omega) (by omega) ?_; intro v' w3 hown3 hb3)
            go_roundw
            case rel => exact ⟨j, f', acc ++ [runAt xs i j], rfl, hj, hown3, (hbw.trans ((hby.trans (hb2.mono (by omega))).mono (by omega))).trans hb3, HST.out, by omega, by simp; omega, by rw [flat_snoc, HRL.out]; omega⟩
            case measure => simp [intOf]; omega
          · go_wp2_with (go_at_call 56; refine (turn_n g (j - i) cap sp _ _ HZL.out hblk (by omega) hg2).mono ?_)
            first | rintro e w3 rfl hg3' hblk3 | rintro e w3 ⟨rfl, hg3', hblk3⟩
            have hb3 : Below wy.heap.size wy w3 := hb2.trans (below_grownBy hg3' (by omega) (by omega))
            have hro : OI w3 w1.heap.size (.slice (some ⟨g, 0, none⟩) (j - i) cap) (runAt xs i j) := by
              have h := OI.of_blk (B := w1.heap.size) (xs := Gl.turned ((xs.take j).drop i)) (g := g) (cap := cap) hblk3 (by omega) (by unfold maxLen; exact hg3) (by rw [Gl.turned_length, HZL.out]; exact HSP.out)
              rw [Gl.turned_length, HZL.out] at h
              unfold runAt; rw [hL]; exact h
            have hor := hown2.below hb3 (Nat.le_refl _)
            have hz3 := hb3.size
            go_wp2_with (at_builtin; refine append_run rfl _ _ rfl w3 w1.heap.size u5 acc (some ⟨g, 0, none⟩) (j - i) cap (runAt xs i j) rfl hor hro rfl (by omega) (by omega) ?_; intro v' w4 hown4 hb4)
            go_roundw
            case rel => exact ⟨j, f', acc ++ [runAt xs i j], rfl, hj, hown4, (hbw.trans ((hby.trans (hb3.mono (by omega))).mono (by omega))).trans hb4, HST.out, by omega, by simp; omega, by rw [flat_snoc, HRL.out]; omega⟩
            case measure => simp [intOf]; omega
    · have HE := Lib.hid (runs_end hlt hacc.out)
      have hsz := hbw.size
      cases hbase : Gl.base xs
      · obtain ⟨A', c', rfl, hRL⟩ := hown.form
        go_wp2_with (go_at_call 58; refine (concat_any A' c' acc _ hRL (by omega) (by omega)).mono ?_; rintro e w2 ⟨hb2, v2, rfl, hown2⟩)
        go_ret
        refine ⟨(hb1.trans (hbw.mono hsz1)).trans (hb2.mono (by omega)), _, rfl, ?_⟩
        have e1 : Gl.order xs = acc.flatten := by unfold Gl.order; rw [hbase, HE.out]; rfl
        rw [e1]
        exact hown2.mono (by omega)
      · go_wp2_with (go_at_call 57; refine (reverseR_any _ w1.heap.size acc _ hown hsz (by omega)).mono ?_)
        first | rintro e w2 rfl hb2 hown2 | rintro e w2 ⟨rfl, hb2, hown2⟩
        have hz2 := hb2.size
        obtain ⟨A', c', hv, hRL⟩ := hown2.form
        have hfl3 : acc.reverse.flatten.length ≤ xs.length := by
          have : acc.reverse.flatten.length = acc.flatten.length := by simp [List.length_flatten, List.map_reverse, List.sum_reverse]
          omega
        rw [List.length_reverse] at hv
        rw [hv]
        have hrl := concat_n A' acc.length c' acc.reverse w2 (by simp) hRL (by omega) (by omega)
        have HRL := Lib.hid hrl
        clear hrl hfl3
        go_wp2_with (go_at_call 58; refine HRL.out.mono ?_; rintro e w3 ⟨hb3, v3, rfl, hown3⟩)
        go_ret
        refine ⟨((hb1.trans (hbw.mono hsz1)).trans (hb2.mono hsz1)).trans (hb3.mono (by omega)), _, rfl, ?_⟩
        have e1 : Gl.order xs = acc.reverse.flatten := by unfold Gl.order; rw [hbase, HE.out]; rfl
        rw [e1]
        exact hown3.mono (by omega)
end Go.Proofs.YtlcjfphhogcenaaDoor
