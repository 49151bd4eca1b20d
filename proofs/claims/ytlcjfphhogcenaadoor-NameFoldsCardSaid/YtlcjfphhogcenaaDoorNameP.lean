/-
  Walks of the statements of layer 7: NameFolds; a region that draws its order and holds calls that make memory.
-/
import Derived.Test.YtlcjfphhogcenaaDoorNameN
set_option linter.unusedVariables false
set_option linter.unusedSimpArgs false
namespace Go.Proofs.YtlcjfphhogcenaaDoor
open Go.RowKit Go.BigFrame

/-- The worlds that keep all that lay below B. -/
def Keeps (B : Nat) (w : World) : Type := {u : World // Below B w u}
instance (B : Nat) (w : World) : Nonempty (Keeps B w) := ⟨⟨w, Below.refl _ _⟩⟩
/-- A region that draws its order and whose callees may make memory: one walk, in the order of the text. -/
theorem region_keeps {P : Program} {id : Nat} {Q : Exit → Act → World → Prop} {a : Act} {w : World} {l : List Oper} (B : Nat) (hm : P.follows .mixedOrders = true) (hB : Region.lexB .any l.toArray = true)
    (h : wpQuiet P l.toArray (fun w' => ∃ x : Keeps B w, w' = x.1) (fun a' => ∀ w', (∃ x : Keeps B w, w' = x.1) → Q .normal a' w') l a) : (Code.region id l.toArray true).wp P Q a w :=
  wp_region_quiet (C := fun w' => ∃ x : Keeps B w, w' = x.1) hm hB ⟨⟨_, below_drewN (Below.refl B w) 1⟩, rfl⟩ (by simpa using h)
theorem Calls.keeps {P : Program} {f : FuncId} {args : Array Value} {w : World} {B : Nat} {x : Keeps B w} {v : Value} (hB : B ≤ w.heap.size)
    (h : Calls P f args x.1 fun e w' => e = .returned v ∧ Below x.1.heap.size x.1 w') : Calls P f args x.1 fun e w'' => e = .returned v ∧ ∃ y : Keeps B w, w'' = y.1 :=
  h.mono fun _ w' ⟨he, hb⟩ => ⟨he, ⟨w', x.2.trans (hb.mono (Nat.le_trans hB x.2.size))⟩, rfl⟩
theorem Calls.keeps_same {P : Program} {f : FuncId} {args : Array Value} {w : World} {B : Nat} {x : Keeps B w} {v : Value}
    (h : Calls P f args x.1 fun e w' => e = .returned v ∧ x.1 = w') : Calls P f args x.1 fun e w'' => e = .returned v ∧ ∃ y : Keeps B w, w'' = y.1 :=
  h.mono fun _ w' ⟨he, hb⟩ => ⟨he, x, hb.symm⟩
theorem Keeps.cell {B : Nat} {w : World} (x : Keeps B w) {p : Addr} {v : Option Value} (h : w.cell? p = v) (hp : p.block < B) : x.1.cell? p = v := (x.2.cell hp).trans h

theorem gfold_at (x : Int) (w : World) (h : Gl.fold x = x) (h1 : 0 ≤ x) (h2 : x ≤ 41000) :
    Calls Tryd.prog 29 #[.int .i64 x] w fun e w' => e = .returned (.int .i64 x) ∧ Below w.heap.size w w' := by
  refine (gfold_any x w (by omega) (by omega)).mono ?_
  rintro e w' ⟨rfl, hb⟩
  exact ⟨by rw [h], hb⟩

set_option maxHeartbeats 4000000 in
theorem law_nfolds (s : ByteArray) (w : World) (ht : Gl.Tab w) (hm : MaxOk w) (hs : s.size ≤ 9223372036854775807) :
    Calls Tryd.prog 17 #[.string s] w fun e w' => e = .returned (.bool true) ∧ Below w.heap.size w w' := by
  go_enter Tryd.func17, Tryd.ntmps17
  by_cases hl : s.size ≤ 200
  rotate_left
  · go_wp2_with fail
    refine (light_no hs (by decide) (by decide) (fun h => hl h.1) _).mono ?_
    first | rintro e w1 rfl rfl | rintro e w1 ⟨rfl, rfl⟩
    go_wp2_with fail
    refine (awake7_any _ ht hm).mono ?_
    first | rintro e w1 rfl hb1 | rintro e w1 ⟨rfl, hb1⟩
    go_wp2_with fail
    go_ret
    exact ⟨rfl, hb1⟩
  go_wp2_with fail
  refine (light_yes hl (by decide) (by decide) _).mono ?_
  first | rintro e w1 rfl rfl | rintro e w1 ⟨rfl, rfl⟩
  go_wp2_with fail
  refine (nkey_any _ _ ht hm (by omega)).mono ?_
  rintro e w1 ⟨hb1, v1, ho1, rfl⟩
  have ht1 := ht.below hb1 (Nat.le_refl _)
  have hm1 := hm.below hb1 (Nat.le_refl _)
  by_cases hc0 : Nm.check s.data.toList = 0
  rotate_left
  · obtain ⟨k, hk⟩ : ∃ k, Nm.check s.data.toList = k := ⟨_, rfl⟩
    have HK := Lib.hid hk
    rw [Nm.key_err hc0] at ho1
    rw [hk] at hc0 ⊢
    have hkb : (k != 0) = true := by simpa using hc0
    obtain ⟨A1, c1, rfl, _, _, _⟩ := ho1.form
    clear hk hc0
    go_wp2_with fail
    refine (awake7_any _ ht1 hm1).mono ?_
    first | rintro e w2 rfl hb2 | rintro e w2 ⟨rfl, hb2⟩
    have ht2 := ht1.below hb2 (Nat.le_refl _)
    have hm2 := hm1.below hb2 (Nat.le_refl _)
    have hb02 : Below w.heap.size w w2 := hb1.trans (hb2.mono hb1.size)
    go_wp2_with fail
    refine (ncheck_at s _ _ HK.out ht2 hm2 hl).mono ?_
    first | rintro e w3 rfl hb3 | rintro e w3 ⟨rfl, hb3⟩
    go_wp2_with fail
    go_ret
    exact ⟨rfl, hb02.trans (hb3.mono hb02.size)⟩
  have hkp := Nm.key_pos hc0
  have hkl := Nm.key_len s.data.toList
  have hkr := Nm.key_le_read s.data.toList
  have hka := Lib.hid (fun i => @Nm.key_at s.data.toList i)
  have hkb := Lib.hid (fun x => @Nm.key_bounds s.data.toList x)
  obtain ⟨hd, _, h40⟩ := Nm.read_ok hc0
  obtain ⟨L, hL⟩ : ∃ L, Nm.read s.data.toList = L := ⟨_, rfl⟩
  rw [hL] at hd h40 hkr
  obtain ⟨xs, hxs⟩ : ∃ xs, Nm.key s.data.toList = xs := ⟨_, rfl⟩
  rw [hxs] at ho1 hkp hkl hkr hka hkb
  rw [hc0]
  have HD := Lib.hid hd
  clear hc0 hL hxs hd
  obtain ⟨n, hn⟩ : ∃ n, xs.length = n := ⟨_, rfl⟩
  rw [hn] at hkp hkl hkr
  obtain ⟨A1, c1, rfl, _, hR1, _⟩ := ho1.form_n hn
  have HN := Lib.hid hn
  clear hn
  go_wp2_with fail
  refine (gdecode_any _ _ ht1 (by omega)).mono ?_
  intro e w2 hp2
  obtain ⟨hb2, v2, ho2, rfl⟩ := hp2.form
  rw [HD.out] at ho2 ⊢
  rw [errOf_some]
  replace ho2 : OI w2 w1.heap.size v2 L := ho2
  have hb02 : Below w.heap.size w w2 := hb1.trans (hb2.mono hb1.size)
  have ht2 := ht1.below hb2 (Nat.le_refl _)
  have hm2 := hm1.below hb2 (Nat.le_refl _)
  have hR2 := hR1.below hb2
  obtain ⟨m, hm'⟩ : ∃ n, L.length = n := ⟨_, rfl⟩
  rw [hm'] at h40 hkr
  obtain ⟨A2, c2, rfl, _, _, _⟩ := ho2.form_n hm'
  have hn0 : ((n : Int) == 0) = false := by rw [beq_eq_false_iff_ne]; omega
  have hnm : decide ((m : Int) < (n : Int)) = false := decide_eq_false (by omega)
  have hnm' : decide (m < n) = false := decide_eq_false (by omega)
  clear hp2 hm' hR1
  go_wp2_with fail
  go_loopw [7] (fun iv wr => ∃ i : Nat, iv = .int .i64 i ∧ i ≤ n ∧ Below w2.heap.size w2 wr) (fun iv _ => n - (intOf iv).toNat)
  case atStart => exact ⟨0, rfl, by omega, Below.refl _ _⟩
  case round =>
    obtain ⟨i, rfl, hi, hbw⟩ := hrel
    have hb0r : Below w.heap.size w wr := hb02.trans (hbw.mono hb02.size)
    by_cases hlt : i < n
    · have hltL : i < xs.length := by rw [HN.out]; exact hlt
      obtain ⟨b1, o1, rfl, hbb1, hc1⟩ := hR2 i hltL
      obtain ⟨x, hx⟩ : ∃ x, gi xs i = x := ⟨_, rfl⟩
      have cc := (hbw.cell (p := ⟨b1, o1 + i, none⟩) hbb1).trans (hc1 i hltL)
      have hf := hka.out i hltL
      have hbd := hkb.out (gi xs i) (by rw [gi_eq hltL]; exact List.getElem_mem hltL)
      rw [hx] at cc hf hbd
      have HF := Lib.hid hf.1
      have hmk := hf.2
      simp only [Nm.mark, Bool.or_eq_false_iff] at hmk
      obtain ⟨⟨⟨⟨⟨m32, m39⟩, m40⟩, m41⟩, m45⟩, m46⟩ := hmk
      have hbr : b1 < wr.heap.size := Nat.lt_of_lt_of_le hbb1 hbw.size
      have CC : ∀ y : Keeps wr.heap.size wr, y.1.cell? ⟨b1, o1 + i, none⟩ = some (.int .i64 x) := fun y => y.cell cc hbr
      clear hc1 hltL hx hf
      by_cases h39 : x < 39
      · have g39 : decide (39 ≤ x) = false := decide_eq_false (by omega)
        clear m39 m40 m41
        go_wp2_with fail
        refine region_keeps wr.heap.size (by kernel_rfl) (by kernel_rfl) ?_
        repeat (go_big_quiet_step ((go_at_call 29; exact Calls.keeps (Nat.le_refl _) (gfold_at _ _ HF.out hbd.1 hbd.2))))
        refine wpQuiet_nil ?_
        intro _ hw'
        obtain ⟨⟨wq, hq⟩, rfl⟩ := hw'
        go_wp2_with fail
        go_roundw
        case rel => exact ⟨i + 1, by go_num, by omega, hbw.trans (hq.mono hbw.size)⟩
        case measure => simp [intOf]; omega
      · have h41 : 41 < x := by
          have := beq_eq_false_iff_ne.1 m39
          have := beq_eq_false_iff_ne.1 m40
          have := beq_eq_false_iff_ne.1 m41
          omega
        have g39 : decide (39 ≤ x) = true := decide_eq_true (by omega)
        have g41 : decide (x ≤ 41) = false := decide_eq_false (by omega)
        clear m39 m40 m41
        go_wp2_with fail
        refine region_keeps wr.heap.size (by kernel_rfl) (by kernel_rfl) ?_
        repeat (go_big_quiet_step ((go_at_call 29; exact Calls.keeps (Nat.le_refl _) (gfold_at _ _ HF.out hbd.1 hbd.2))))
        refine wpQuiet_nil ?_
        intro _ hw'
        obtain ⟨⟨wq, hq⟩, rfl⟩ := hw'
        go_wp2_with fail
        go_roundw
        case rel => exact ⟨i + 1, by go_num, by omega, hbw.trans (hq.mono hbw.size)⟩
        case measure => simp [intOf]; omega
    · go_wp2_with fail
      refine (awake7_any _ (ht2.below hbw (Nat.le_refl _)) (hm2.below hbw (Nat.le_refl _))).mono ?_
      first | rintro e w3 rfl hb3 | rintro e w3 ⟨rfl, hb3⟩
      go_wp2_with fail
      go_ret
      exact ⟨rfl, hb0r.trans (hb3.mono hb0r.size)⟩
end Go.Proofs.YtlcjfphhogcenaaDoor
