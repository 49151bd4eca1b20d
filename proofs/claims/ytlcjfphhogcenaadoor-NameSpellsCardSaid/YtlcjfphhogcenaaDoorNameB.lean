/-
  Walks of layer 7: Check of the program and of the reference; the reference's marks, blanks, common code points.
-/
import Derived.Test.YtlcjfphhogcenaaDoorNameA
set_option linter.unusedVariables false
set_option linter.unusedSimpArgs false
namespace Go.Proofs.YtlcjfphhogcenaaDoor
open Go.RowKit

theorem ncheck_any (s : ByteArray) (w : World) (ht : Gl.Tab w) (hm : MaxOk w) (hs : s.size ≤ 1000000000000) :
    Calls Tryd.prog 38 #[.string s] w fun e w' => e = .returned (.int .i64 (Nm.check s.data.toList)) ∧ Below w.heap.size w w' := by
  go_enter Tryd.func38, Tryd.ntmps38
  go_wp2_with (go_at_call 62; refine (read_any _ _ ht hm hs).mono ?_)
  rintro e w1 ⟨hb1, v1, ho1, rfl⟩
  go_wp2_with fail
  go_ret
  exact ⟨rfl, hb1⟩

theorem rmark_any (r : Int) (w : World) :
    Calls Tryd.prog 63 #[.int .i64 r] w fun e w' => e = .returned (.bool (Nm.mark r)) ∧ w = w' := by
  go_enter Tryd.func63, Tryd.ntmps63
  go_wp2_with fail
  all_goals go_ret
  all_goals exact ⟨ret_bool (by simp_all [Nm.mark]), rfl⟩

set_option maxHeartbeats 2000000 in
theorem rcommon_any (A : Option Addr) (c n : Nat) (L : List Int) (w : World) (hn : L.length = n) (hA : RI w A L) (hx : n ≤ 1000000000000000) :
    Calls Tryd.prog 65 #[.slice A n c] w fun e w' => e = .returned (.bool (Nm.common L)) ∧ w = w' := by
  subst hn
  go_enter Tryd.func65, Tryd.ntmps65
  go_wp2_with fail
  go_loopw [3] (fun iv wr => ∃ i : Nat, iv = .int .i64 i ∧ i ≤ L.length ∧ Hid (∀ k, k < i → Gl.script (gi L k) = 0) ∧ w = wr) (fun iv _ => L.length - (intOf iv).toNat)
  case atStart => exact ⟨0, rfl, by omega, fun k hk => absurd hk (by omega), rfl⟩
  case round =>
    obtain ⟨i, rfl, hi, hall, rfl⟩ := hrel
    by_cases hlt : i < L.length
    · obtain ⟨b1, o1, rfl, hbb1, hc1⟩ := hA i hlt
      have c1 := hc1 i hlt
      clear hc1 hA
      by_cases hsc : Gl.script (gi L i) = 0
      · have hsb : (Gl.script (gi L i) != 0) = false := by simp [hsc]
        have HS := Lib.hid hsc
        clear hsc
        go_wp2_with (go_at_call 26; refine (rscript_any _ _).mono ?_; first | rintro e w2 rfl rfl | rintro e w2 ⟨rfl, rfl⟩)
        go_roundw
        case rel => exact ⟨i + 1, by go_num, by omega, fun k hk => (Nat.lt_or_eq_of_le (Nat.le_of_lt_succ hk)).elim (hall.out k) (fun e => by rw [e]; exact HS.out), trivial⟩
        case measure => simp [intOf]; omega
      · have hsb : (Gl.script (gi L i) != 0) = true := by simp [hsc]
        have hcm : Nm.common L = false := by
          unfold Nm.common
          rw [List.all_eq_false]
          refine ⟨L[i], List.getElem_mem hlt, ?_⟩
          rw [← gi_eq hlt]
          simpa using hsc
        have HC := Lib.hid hcm
        clear hcm
        go_wp2_with (go_at_call 26; refine (rscript_any _ _).mono ?_; first | rintro e w2 rfl rfl | rintro e w2 ⟨rfl, rfl⟩)
        go_ret
        exact ⟨ret_bool HC.out.symm, rfl⟩
    · have hcm : Nm.common L = true := by
        unfold Nm.common
        rw [List.all_eq_true]
        intro x hx
        obtain ⟨k, hk, rfl⟩ := List.mem_iff_getElem.1 hx
        have := hall.out k (by omega)
        rw [gi_eq hk] at this
        simpa using this
      have HC := Lib.hid hcm
      clear hcm
      go_wp2_with fail
      go_ret
      exact ⟨ret_bool HC.out.symm, rfl⟩

/-! blanks -/
theorem dbl_some {L : List Int} {k : Nat} (h : k + 1 < L.length) (h1 : gi L k = 32) (h2 : gi L (k + 1) = 32) : ∀ p, Nm.dbl p L = true := by
  induction k generalizing L with
  | zero =>
    intro p
    match L, h with
    | x :: y :: t, _ =>
      have e1 : x = 32 := h1
      have e2 : y = 32 := h2
      simp [Nm.dbl, e1, e2]
  | succ k ih =>
    intro p
    match L, h with
    | x :: t, h =>
      have := ih (L := t) (by simpa using h) h1 h2 (x == 32)
      simp [Nm.dbl, this]
theorem dbl_none : ∀ {L : List Int} (p : Bool), (p = true → gi L 0 ≠ 32 ∨ L = []) → (∀ k, k + 1 < L.length → ¬ (gi L (k + 1) = 32 ∧ gi L k = 32)) → Nm.dbl p L = false
  | [], p, _, _ => rfl
  | x :: t, p, hp, h => by
    have h1 : (p && x == 32) = false := by
      cases p with
      | false => rfl
      | true => simpa using (hp rfl).elim (fun h : x ≠ 32 => h) (fun h => by cases h)
    have h2 : Nm.dbl (x == 32) t = false := by
      refine dbl_none _ (fun e => ?_) (fun k hk hh => h (k + 1) (by simpa using hk) hh)
      cases t with
      | nil => exact Or.inr rfl
      | cons y t =>
        refine Or.inl (fun hy => h 0 (by simp) ⟨hy, ?_⟩)
        show x = 32
        simpa using e
    simp [Nm.dbl, h1, h2]
theorem blanks_split {L : List Int} (h : 0 < L.length) : Nm.blanks L = ((gi L 0 == 32) || (gi L (L.length - 1) == 32) || Nm.dbl false L) := by
  have e1 : (L.head? == some 32) = (gi L 0 == 32) := by
    rw [List.head?_eq_getElem?, List.getElem?_eq_getElem h, gi_eq h]
    rfl
  have e2 : (L.getLast? == some 32) = (gi L (L.length - 1) == 32) := by
    rw [List.getLast?_eq_getElem?, List.getElem?_eq_getElem (by omega), gi_eq (by omega)]
    rfl
  unfold Nm.blanks
  rw [e1, e2]

set_option maxHeartbeats 4000000 in
theorem rblanks_any (A : Option Addr) (c n : Nat) (L : List Int) (w : World) (hn : L.length = n) (hA : RI w A L) (h0 : 0 < n) (hx : n ≤ 1000000000000000) :
    Calls Tryd.prog 64 #[.slice A n c] w fun e w' => e = .returned (.bool (Nm.blanks L)) ∧ w = w' := by
  subst hn
  have HB := Lib.hid (blanks_split h0)
  obtain ⟨b1, o1, rfl, hbb1, hc1⟩ := hA 0 h0
  have c0 : w.cell? ⟨b1, o1, none⟩ = some (.int .i64 (gi L 0)) := hc1 0 h0
  have cl := hc1 (L.length - 1) (by omega)
  have HC := Lib.hid hc1
  clear hc1 hA
  go_enter Tryd.func64, Tryd.ntmps64
  by_cases hz : gi L 0 = 32
  · have hzb : (gi L 0 == 32) = true := by simp [hz]
    have HE : Hid (Nm.blanks L = true) := Lib.hid (by rw [HB.out, hzb]; rfl)
    clear hz
    go_wp2_with fail
    go_ret
    exact ⟨ret_bool HE.out.symm, rfl⟩
  have hzb : (gi L 0 == 32) = false := by simp [hz]
  by_cases hy : gi L (L.length - 1) = 32
  · have hyb : (gi L (L.length - 1) == 32) = true := by simp [hy]
    have HE : Hid (Nm.blanks L = true) := Lib.hid (by rw [HB.out, hzb, hyb]; rfl)
    clear hz hy
    go_wp2_with fail
    go_ret
    exact ⟨ret_bool HE.out.symm, rfl⟩
  have hyb : (gi L (L.length - 1) == 32) = false := by simp [hy]
  have HD : Hid (Nm.blanks L = Nm.dbl false L) := Lib.hid (by rw [HB.out, hzb, hyb]; rfl)
  clear hz hy HB
  go_wp2_with fail
  go_loopw [3] (fun iv wr => ∃ i : Nat, iv = .int .i64 (i + 1 : Nat) ∧ i + 1 ≤ L.length ∧ Hid (∀ k, k < i → ¬ (gi L (k + 1) = 32 ∧ gi L k = 32)) ∧ w = wr) (fun iv _ => L.length - (intOf iv).toNat)
  case atStart => exact ⟨0, rfl, by omega, fun k hk => absurd hk (by omega), rfl⟩
  case round =>
    obtain ⟨i, rfl, hi, hall, rfl⟩ := hrel
    have ei : ((i + 1 : Nat) : Int) = (i : Int) + 1 := by omega
    rw [ei]
    clear ei
    by_cases hlt : i + 1 < L.length
    · have c1 := HC.out (i + 1) hlt
      have c2 := HC.out i (by omega)
      by_cases h1 : gi L (i + 1) = 32
      · have h1b : (gi L (i + 1) == 32) = true := by simp [h1]
        by_cases h2 : gi L i = 32
        · have h2b : (gi L i == 32) = true := by simp [h2]
          have HE : Hid (Nm.dbl false L = true) := Lib.hid (dbl_some hlt h2 h1 false)
          clear h1 h2
          go_wp2_with fail
          go_ret
          exact ⟨ret_bool (by rw [HD.out, HE.out]), rfl⟩
        · have h2b : (gi L i == 32) = false := by simp [h2]
          have HN := Lib.hid h2
          clear h1 h2
          go_wp2_with fail
          go_roundw
          case rel => exact ⟨i + 1, by go_num, by omega, fun k hk => (Nat.lt_or_eq_of_le (Nat.le_of_lt_succ hk)).elim (hall.out k) (fun e => by rw [e]; exact fun h => HN.out h.2), trivial⟩
          case measure => simp [intOf]; omega
      · have h1b : (gi L (i + 1) == 32) = false := by simp [h1]
        have HN := Lib.hid h1
        clear h1
        go_wp2_with fail
        go_roundw
        case rel => exact ⟨i + 1, by go_num, by omega, fun k hk => (Nat.lt_or_eq_of_le (Nat.le_of_lt_succ hk)).elim (hall.out k) (fun e => by rw [e]; exact fun h => HN.out h.1), trivial⟩
        case measure => simp [intOf]; omega
    · have HE : Hid (Nm.dbl false L = false) := Lib.hid (dbl_none false (fun h => by cases h) (fun k hk => hall.out k (by omega)))
      go_wp2_with fail
      go_ret
      exact ⟨ret_bool (by rw [HD.out, HE.out]), rfl⟩
end Go.Proofs.YtlcjfphhogcenaaDoor
