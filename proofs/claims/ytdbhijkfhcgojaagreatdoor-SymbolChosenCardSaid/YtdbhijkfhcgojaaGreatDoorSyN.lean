/-
  Symbols: the law SymbolChosen.
-/
import Derived.Test.YtdbhijkfhcgojaaGreatDoorSyM
set_option linter.unusedVariables false
set_option linter.unusedSimpArgs false
namespace Go.Proofs.YtdbhijkfhcgojaaGreatDoor
open Go.RowKit

theorem Sy.check_zero {ss : List Sym} (h : Sy.check ss = 0) : ss.length ≤ 72 ∧ ∀ j, j + 1 < ss.length → Sy.lt (sy ss j) (sy ss (j + 1)) := by
  unfold Sy.check at h
  split at h
  · cases h
  · split at h
    · split at h
      · split at h
        · rename_i h1 _ _ h4
          exact ⟨by omega, fun j hj => h4 j (by omega)⟩
        · cases h
      · cases h
    · cases h
theorem Sy.lt_trans {a b c : Sym} (h1 : Sy.lt a b) (h2 : Sy.lt b c) : Sy.lt a c := by unfold Sy.lt at *; omega
theorem Sy.sorted {ss : List Sym} (h : ∀ j, j + 1 < ss.length → Sy.lt (sy ss j) (sy ss (j + 1))) : ∀ d i, i + d + 1 < ss.length → Sy.lt (sy ss i) (sy ss (i + d + 1)) := by
  intro d
  induction d with
  | zero => exact fun i hi => h i hi
  | succ d ih => exact fun i hi => Sy.lt_trans (ih i (by omega)) (h (i + d + 1) hi)
theorem Sy.apart {ss : List Sym} (h : Sy.check ss = 0) {i j : Nat} (hij : i < j) (hj : j < ss.length) : Sy.lt (sy ss i) (sy ss j) := by
  have := Sy.sorted (Sy.check_zero h).2 (j - i - 1) i (by omega)
  rwa [show i + (j - i - 1) + 1 = j by omega] at this
theorem Sy.find_self {ss : List Sym} (h : Sy.check ss = 0) {i : Nat} (hi : i < ss.length) : Sy.find ss (sy ss i).kind (sy ss i).cls = some (sy ss i) :=
  Sy.find_hit hi ⟨rfl, rfl⟩ (fun j hj e => by have := Sy.apart h hj hi; unfold Sy.lt at this; omega)
/-- How many of the first i symbols have the kind and the class. -/
def Sy.hits (ss : List Sym) (k c : Int) (i : Nat) : Int := if ∃ j, j < i ∧ (sy ss j).kind = k ∧ (sy ss j).cls = c then 1 else 0
theorem Sy.hits_zero (ss : List Sym) (k c : Int) : Sy.hits ss k c 0 = 0 := by unfold Sy.hits; rw [if_neg (fun ⟨j, hj, _⟩ => absurd hj (by omega))]
theorem Sy.hits_yes {ss : List Sym} {k c : Int} {i : Nat} (h : Sy.check ss = 0) (hi : i < ss.length) (hm : (sy ss i).kind = k ∧ (sy ss i).cls = c) : Sy.hits ss k c i = 0 ∧ Sy.hits ss k c (i + 1) = 1 := by
  unfold Sy.hits
  rw [if_neg, if_pos]
  · exact ⟨rfl, rfl⟩
  · exact ⟨i, by omega, hm⟩
  · rintro ⟨j, hj, h1, h2⟩
    have := Sy.apart h hj hi
    unfold Sy.lt at this
    omega
theorem Sy.hits_no {ss : List Sym} {k c : Int} {i : Nat} (hm : ¬ ((sy ss i).kind = k ∧ (sy ss i).cls = c)) : Sy.hits ss k c (i + 1) = Sy.hits ss k c i := by
  unfold Sy.hits
  by_cases he : ∃ j, j < i ∧ (sy ss j).kind = k ∧ (sy ss j).cls = c
  · rw [if_pos he, if_pos]
    obtain ⟨j, hj, hh⟩ := he
    exact ⟨j, by omega, hh⟩
  · rw [if_neg he, if_neg]
    rintro ⟨j, hj, hh⟩
    by_cases e : j = i
    · subst e; exact hm hh
    · exact he ⟨j, by omega, hh⟩
theorem Sy.hits_le (ss : List Sym) (k c : Int) (i : Nat) : 0 ≤ Sy.hits ss k c i ∧ Sy.hits ss k c i ≤ 1 := by
  unfold Sy.hits; split <;> omega
theorem Sy.hits_all (ss : List Sym) (k c : Int) : (Sy.hits ss k c ss.length == 1) = (Sy.find ss k c).isSome := by
  unfold Sy.hits
  split
  · rename_i he
    obtain ⟨j, hj, h1, h2⟩ := he
    have : (Sy.find ss k c).isSome = true := by
      unfold Sy.find
      rw [List.find?_isSome]
      exact ⟨sy ss j, by rw [sy_eq hj]; exact List.getElem_mem hj, by simp [h1, h2]⟩
    rw [this]; rfl
  · rename_i he
    rw [Sy.find_none (fun j hj hh => he ⟨j, hj, hh⟩)]; rfl

set_option maxRecDepth 4000 in
set_option maxHeartbeats 16000000 in
theorem law_sychosen (A : Option Addr) (c n : Nat) (ss : List Sym) (k cl : Int) (w : World) (hn : ss.length = n) (hA : RSy w A ss) :
    Calls Tryz.prog 5 #[.slice A n c, .int .i64 k, .int .i64 cl] w fun e w' => e = .returned (.bool true) ∧ Below w.heap.size w w' := by
  by_cases h100 : (n : Int) ≤ 100
  rotate_left
  · have h101 : (100 : Int) < n := by omega
    go_enter Tryz.func5, Tryz.ntmps5
    go_wp2_with fail
    refine (lyawake_any _).mono ?_
    first | rintro e w1 rfl hb1 | rintro e w1 ⟨rfl, hb1⟩
    go_wp2_with fail
    go_ret
    exact ⟨rfl, hb1⟩
  have h100b : decide ((100 : Int) < n) = false := decide_eq_false (by omega)
  obtain ⟨kc, hkc⟩ : ∃ kc, Sy.check ss = kc := ⟨_, rfl⟩
  have HKC := Lib.hid hkc
  have HN := Lib.hid hn
  clear hkc hn
  go_enter Tryz.func5, Tryz.ntmps5
  go_wp2_with fail
  refine (ycheck_at A c n ss kc _ HKC.out HN.out (by omega) hA).mono ?_
  first | rintro e w1 rfl hb1 | rintro e w1 ⟨rfl, hb1⟩
  by_cases h0 : kc = 0
  rotate_left
  · have h0b : (kc == 0) = false := by simpa using h0
    have h0c : (kc != 0) = true := by simpa using h0
    go_wp2_with fail
    refine (lyawake_any _).mono ?_
    first | rintro e w2 rfl hb2 | rintro e w2 ⟨rfl, hb2⟩
    go_wp2_with fail
    go_ret
    exact ⟨rfl, hb1.trans (hb2.mono hb1.size)⟩
  subst h0
  have hA1 := hA.below hb1
  go_wp2_with fail
  go_loopw [7, 8] (fun fv iv wr => ∃ i : Nat, iv = .int .i64 i ∧ fv = .int .i64 (Sy.hits ss k cl i) ∧ i ≤ n ∧ Below w1.heap.size w1 wr) (fun _ iv _ => n - (intOf iv).toNat)
  case atStart => exact ⟨0, rfl, by rw [Sy.hits_zero], by omega, Below.refl _ _⟩
  case round =>
    obtain ⟨i, rfl, rfl, hi, hbw⟩ := hrel
    have hzr := hbw.size
    have hAr := hA1.below hbw
    by_cases hlt : i < n
    · have hlen : i < ss.length := by rw [HN.out]; exact hlt
      obtain ⟨b1, o1, rfl, hbb1, hc1⟩ := hAr i hlen
      obtain ⟨d0, d1, d2, d3, d4, d5, d6, d7, d8⟩ := hc1 i hlen
      have HFS := Lib.hid (Sy.find_self HKC.out hlen)
      have HFS2 : Hid (((Sy.find ss (sy ss i).kind (sy ss i).cls).getD Sym.zero, (Sy.find ss (sy ss i).kind (sy ss i).cls).isSome) = (sy ss i, true)) := Lib.hid (by rw [HFS.out]; rfl)
      have HR := Lib.hid hAr
      have HH := Sy.hits_le ss k cl i
      clear hc1 hAr hA hA1 hlen
      have x1 : (0 : Int) ≤ i := by omega
      have x2 : (i : Int) < n := by omega
      go_upto_region 7 with fail
      have HKP : Hid (∀ X, Below wr.heap.size wr X → X.cell? ⟨b1, o1 + i * 9, none⟩ = some (.int .i64 (sy ss i).kind) ∧ X.cell? ⟨b1, o1 + i * 9 + 1, none⟩ = some (.int .i64 (sy ss i).cls)) :=
        Lib.hid (fun X hX => ⟨(hX.cell (p := ⟨b1, o1 + i * 9, none⟩) hbb1).trans d0, (hX.cell (p := ⟨b1, o1 + i * 9 + 1, none⟩) hbb1).trans d1⟩)
      go_cut [9, 10] (fun a ok wx => ∃ q : Nat, a = .pointer (some ⟨q, 0, none⟩) ∧ ok = .bool true ∧ Bk wx q 26 #[.int .i64 (sy ss i).kind, .int .i64 (sy ss i).cls, .int .i64 (sy ss i).w, .int .i64 (sy ss i).h, .int .i64 (sy ss i).l, .int .i64 (sy ss i).i0, .int .i64 (sy ss i).i1, .int .i64 (sy ss i).i2, .int .i64 (sy ss i).i3] ∧ Below wr.heap.size wr wx)
      case first =>
        clear d2 d3 d4 d5 d6 d7 d8
        go_region_held3 (fun w' => w'.cell? ⟨b1, o1 + i * 9, none⟩ = some (.int .i64 (sy ss i).kind) ∧ w'.cell? ⟨b1, o1 + i * 9 + 1, none⟩ = some (.int .i64 (sy ss i).cls))
          ((first | exact HKP.out _ (by go_grown) | exact HKP.out _ hb7))
          (first | (go_at_call 7; refine (yfind_at _ c n ss (sy ss i).kind (sy ss i).cls (sy ss i) true _ HFS2.out HN.out (by omega) (HR.out.below (by go_grown))).mono ?_; first | rintro e w6 rfl hb6 | rintro e w6 ⟨rfl, hb6⟩; have hb7 : Below wr.heap.size wr w6 := Below.trans (by go_grown) (hb6.mono (by simp)); have hz6 := hb7.size; have hcc := fun (b' o' : Nat) (h' : b' < _) => hb6.cell (p := ⟨b', o', none⟩) h'; have hff := fun (b' o' : Nat) (h' : b' < _) => hb6.frozen (p := ⟨b', o', none⟩) h'))
        all_goals (
          go_wp2_with fail
          go_meet
          case rel =>
            refine ⟨_, rfl, rfl, ?_, by go_grown⟩
            first
            | with_reducible exact Bk.new w6 _ _
            | (have kz : Bk w6 wr.heap.size 26 #[.int .i64 0, .int .i64 0, .int .i64 0, .int .i64 0, .int .i64 0, .int .i64 0, .int .i64 0, .int .i64 0, .int .i64 0] := (hb6.block wr.heap.size (by simp)).trans (heap_alloc_new wr _)
               obtain ⟨W', hW', hk', _⟩ := kz.set9 (.int .i64 (sy ss i).kind) (.int .i64 (sy ss i).cls) (.int .i64 (sy ss i).w) (.int .i64 (sy ss i).h) (.int .i64 (sy ss i).l) (.int .i64 (sy ss i).i0) (.int .i64 (sy ss i).i1) (.int .i64 (sy ss i).i2) (.int .i64 (sy ss i).i3)
               rw [hW']
               exact hk'))
      case rest =>
        obtain ⟨q, rfl, rfl, kq, hbc⟩ := hcut
        have b1c : Below w1.heap.size w1 wc := hbw.trans (hbc.mono hzr)
        have e0 := (hbc.cell (p := ⟨b1, o1 + i * 9, none⟩) hbb1).trans d0
        have e1 := (hbc.cell (p := ⟨b1, o1 + i * 9 + 1, none⟩) hbb1).trans d1
        have e2 := (hbc.cell (p := ⟨b1, o1 + i * 9 + 2, none⟩) hbb1).trans d2
        have e3 := (hbc.cell (p := ⟨b1, o1 + i * 9 + 3, none⟩) hbb1).trans d3
        have e4 := (hbc.cell (p := ⟨b1, o1 + i * 9 + 4, none⟩) hbb1).trans d4
        have e5 := (hbc.cell (p := ⟨b1, o1 + i * 9 + 5, none⟩) hbb1).trans d5
        have e6 := (hbc.cell (p := ⟨b1, o1 + i * 9 + 6, none⟩) hbb1).trans d6
        have e7 := (hbc.cell (p := ⟨b1, o1 + i * 9 + 7, none⟩) hbb1).trans d7
        have e8 := (hbc.cell (p := ⟨b1, o1 + i * 9 + 8, none⟩) hbb1).trans d8
        have t0 := kq.cell 0
        have t1 := kq.cell 1
        have t2 := kq.cell 2
        have t3 := kq.cell 3
        have t4 := kq.cell 4
        have t5 := kq.cell 5
        have t6 := kq.cell 6
        have t7 := kq.cell 7
        have t8 := kq.cell 8
        simp only [List.getElem?_toArray, List.getElem?_cons_zero, List.getElem?_cons_succ] at t0 t1 t2 t3 t4 t5 t6 t7 t8
        have hik := inks_self (sy ss i).i0 (sy ss i).i1 (sy ss i).i2 (sy ss i).i3
        clear d0 d1 d2 d3 d4 d5 d6 d7 d8 HKP HR HFS HFS2 hbc hbw
        go_upto_region 8 with fail
        go_quiet (fail)
        have b1d := below_drewN b1c nq
        clear hik t0 t1 t2 t3 t4 t5 t6 t7 t8
        by_cases hm1 : (sy ss i).kind = k
        · have hm1b : ((sy ss i).kind == k) = true := by simp [hm1]
          by_cases hm2 : (sy ss i).cls = cl
          · have hm2b : ((sy ss i).cls == cl) = true := by simp [hm2]
            have HY := Lib.hid (Sy.hits_yes HKC.out (show i < ss.length by rw [HN.out]; exact hlt) ⟨hm1, hm2⟩)
            clear hm1 hm2
            go_wp2_with fail
            go_roundw
            case rel => exact ⟨i + 1, by go_num, by rw [HY.out.1, HY.out.2]; rfl, by omega, b1d⟩
            case measure => simp [intOf]; omega
          · have hm2b : ((sy ss i).cls == cl) = false := by simp [hm2]
            have HY := Lib.hid (Sy.hits_no (ss := ss) (k := k) (c := cl) (i := i) (fun h => hm2 h.2))
            clear hm1 hm2
            go_wp2_with fail
            go_roundw
            case rel => exact ⟨i + 1, by go_num, by rw [HY.out], by omega, b1d⟩
            case measure => simp [intOf]; omega
        · have hm1b : ((sy ss i).kind == k) = false := by simp [hm1]
          have HY := Lib.hid (Sy.hits_no (ss := ss) (k := k) (c := cl) (i := i) (fun h => hm1 h.1))
          clear hm1
          go_wp2_with fail
          go_roundw
          case rel => exact ⟨i + 1, by go_num, by rw [HY.out], by omega, b1d⟩
          case measure => simp [intOf]; omega
    · obtain rfl : i = n := by omega
      obtain ⟨⟨s, r⟩, hsr⟩ : ∃ sr : Sym × Bool, ((Sy.find ss k cl).getD Sym.zero, (Sy.find ss k cl).isSome) = sr := ⟨_, rfl⟩
      have HSR := Lib.hid hsr
      have HALL := Sy.hits_all ss k cl
      rw [HN.out, show (Sy.find ss k cl).isSome = r by injection hsr] at HALL
      have HH := Sy.hits_le ss k cl i
      clear hsr
      obtain ⟨f, hf⟩ : ∃ f, Sy.hits ss k cl i = f := ⟨_, rfl⟩
      rw [hf] at HALL HH ⊢
      clear hf
      obtain ⟨hf1, hf2⟩ := HH
      have HA := Lib.hid HALL
      clear HALL
      have b0r : Below w.heap.size w wr := hb1.trans (hbw.mono hb1.size)
      go_wp2_with fail
      refine (yfind_at A c i ss k cl s r _ HSR.out HN.out (by omega) hAr).mono ?_
      first | rintro e w6 rfl hb6 | rintro e w6 ⟨rfl, hb6⟩
      have b06 : Below w.heap.size w w6 := b0r.trans (hb6.mono b0r.size)
      go_upto_region 13 with fail
      obtain ⟨W7, hW⟩ : ∃ X, w6.alloc (.cells #[.int .i64 s.kind, .int .i64 s.cls, .int .i64 s.w, .int .i64 s.h, .int .i64 s.l, .int .i64 s.i0, .int .i64 s.i1, .int .i64 s.i2, .int .i64 s.i3] 26) = X := ⟨_, rfl⟩
      have hb7 : Below w6.heap.size w6 W7 := by rw [← hW]; exact (Below.refl _ _).alloc (Nat.le_refl _) _
      rw [hW]
      clear hW
      have b07 : Below w.heap.size w W7 := b06.trans (hb7.mono b06.size)
      go_wp2_with fail
      refine (lyawake_any _).mono ?_
      first | rintro e w8 rfl hb8 | rintro e w8 ⟨rfl, hb8⟩
      go_wp2_with fail
      go_ret
      exact ⟨ret_bool (by rw [HA.out]; simp), b07.trans (hb8.mono b07.size)⟩
end Go.Proofs.YtdbhijkfhcgojaaGreatDoor
