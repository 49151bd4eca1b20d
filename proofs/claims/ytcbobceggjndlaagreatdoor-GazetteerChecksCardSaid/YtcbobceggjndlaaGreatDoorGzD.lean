/-
  Entries of the gazetteer: Check.
-/
import Derived.Test.YtcbobceggjndlaaGreatDoorGzC
set_option linter.unusedVariables false
set_option linter.unusedSimpArgs false
namespace Go.Proofs.YtcbobceggjndlaaGreatDoor
open Go.RowKit

def Ent.zero : Ent := ⟨⟨#[]⟩, 0, 0, ⟨#[]⟩⟩
def en (es : List Ent) (i : Nat) : Ent := es.getD i Ent.zero
theorem en_eq {es : List Ent} {i : Nat} (h : i < es.length) : en es i = es[i] := by simp [en, h]
structure EntAt (w : World) (b o : Nat) (x : Ent) : Prop where
  c0 : w.cell? ⟨b, o, none⟩ = some (.string x.name)
  c1 : w.cell? ⟨b, o + 1, none⟩ = some (.int .i64 x.feat)
  c2 : w.cell? ⟨b, o + 2, none⟩ = some (.int .i64 x.sheet)
  c3 : w.cell? ⟨b, o + 3, none⟩ = some (.string x.sq)
theorem EntAt.below {w w' : World} {b o D : Nat} {x : Ent} (h : EntAt w b o x) (hb : Below D w w') (hD : b < D) : EntAt w' b o x :=
  ⟨(hb.cell (p := ⟨b, o, none⟩) hD).trans h.c0, (hb.cell (p := ⟨b, o + 1, none⟩) hD).trans h.c1, (hb.cell (p := ⟨b, o + 2, none⟩) hD).trans h.c2, (hb.cell (p := ⟨b, o + 3, none⟩) hD).trans h.c3⟩
/-- The slice at A reads as the entries es. -/
def RE (w : World) (A : Option Addr) (es : List Ent) : Prop :=
  ∀ k, k < es.length → ∃ b off, A = some ⟨b, off, none⟩ ∧ b < w.heap.size ∧ ∀ j, j < es.length → EntAt w b (off + j * 4) (en es j)
theorem RE.below {w w' : World} {A : Option Addr} {es : List Ent} (h : RE w A es) (hb : Below w.heap.size w w') : RE w' A es := fun k hk => by
  obtain ⟨b, off, e, hl, hc⟩ := h k hk
  exact ⟨b, off, e, Nat.lt_of_lt_of_le hl hb.size, fun j hj => (hc j hj).below hb hl⟩
def Gz.nameOk (x : Ent) : Prop := Nm.check x.name.data.toList = 0
instance (x : Ent) : Decidable (Gz.nameOk x) := by unfold Gz.nameOk; infer_instance
def Gz.rangeOk (x : Ent) : Prop := (1 ≤ x.feat ∧ x.feat ≤ 1073741824) ∧ 1 ≤ x.sheet ∧ x.sheet ≤ 256
instance (x : Ent) : Decidable (Gz.rangeOk x) := by unfold Gz.rangeOk; infer_instance
def Gz.formOk (x : Ent) : Prop := Gz.Form x.sq.data.toList
instance (x : Ent) : Decidable (Gz.formOk x) := by unfold Gz.formOk; infer_instance
/-- The error of a list of entries. -/
def Gz.check (es : List Ent) : Int :=
  if ∀ j, j < es.length → Gz.nameOk (en es j) then (if ∀ j, j < es.length → Gz.rangeOk (en es j) then (if ∀ j, j < es.length → Gz.formOk (en es j) then (if ∀ j, j < es.length - 1 → Gz.before (en es j) (en es (j + 1)) then 0 else 10) else 20) else 2) else 14
theorem Gz.check_name {es : List Ent} {j : Nat} (hj : j < es.length) (hk : ¬ Gz.nameOk (en es j)) : Gz.check es = 14 := by
  unfold Gz.check; rw [if_neg (fun hh => hk (hh j hj))]
theorem Gz.check_range {es : List Ent} (h1 : ∀ j, j < es.length → Gz.nameOk (en es j)) {j : Nat} (hj : j < es.length) (hk : ¬ Gz.rangeOk (en es j)) : Gz.check es = 2 := by
  unfold Gz.check; rw [if_pos h1, if_neg (fun hh => hk (hh j hj))]
theorem Gz.check_form {es : List Ent} (h1 : ∀ j, j < es.length → Gz.nameOk (en es j)) (h2 : ∀ j, j < es.length → Gz.rangeOk (en es j)) {j : Nat} (hj : j < es.length) (hk : ¬ Gz.formOk (en es j)) : Gz.check es = 20 := by
  unfold Gz.check; rw [if_pos h1, if_pos h2, if_neg (fun hh => hk (hh j hj))]
theorem Gz.check_order {es : List Ent} (h1 : ∀ j, j < es.length → Gz.nameOk (en es j)) (h2 : ∀ j, j < es.length → Gz.rangeOk (en es j)) (h3 : ∀ j, j < es.length → Gz.formOk (en es j)) {j : Nat} (hj : j + 1 < es.length) (hk : ¬ Gz.before (en es j) (en es (j + 1))) : Gz.check es = 10 := by
  unfold Gz.check; rw [if_pos h1, if_pos h2, if_pos h3, if_neg (fun hh => hk (hh j (by omega)))]
theorem Gz.check_ok {es : List Ent} (h1 : ∀ j, j < es.length → Gz.nameOk (en es j)) (h2 : ∀ j, j < es.length → Gz.rangeOk (en es j)) (h3 : ∀ j, j < es.length → Gz.formOk (en es j)) (h4 : ∀ j, j + 1 < es.length → Gz.before (en es j) (en es (j + 1))) : Gz.check es = 0 := by
  unfold Gz.check; rw [if_pos h1, if_pos h2, if_pos h3, if_pos (fun j hj => h4 j (by omega))]
theorem all_snoc {P : Nat → Prop} {i : Nat} (h : ∀ j, j < i → P j) (hi : P i) : ∀ j, j < i + 1 → P j :=
  fun j hj => (Nat.lt_or_eq_of_le (Nat.le_of_lt_succ hj)).elim (h j) (fun e => e ▸ hi)
/-- Texts of entries that are not too long. -/
def Gz.Short (es : List Ent) : Prop := ∀ j, j < es.length → (en es j).name.size ≤ 1000000000000 ∧ (en es j).sq.size ≤ 1000000000000
theorem gsq_at (s : ByteArray) (b : Bool) (w : World) (hs : s.size ≤ 1000000000000) (h : decide (Gz.Form s.data.toList) = b) : Calls Tryz.prog 14 #[.string s] w fun e w' => e = .returned (.bool b) ∧ w = w' := by
  subst h; exact gsquare_any s w hs
theorem rfm_at (s : ByteArray) (b : Bool) (w : World) (hs : s.size ≤ 1000000000000) (h : decide (Gz.Form s.data.toList) = b) : Calls Tryz.prog 17 #[.string s] w fun e w' => e = .returned (.bool b) ∧ w = w' := by
  subst h; exact rform_any s w hs
theorem gck_at (s : ByteArray) (n : Int) (w : World) (ht : Gl.Tab w) (hm : MaxOk w) (hs : s.size ≤ 1000000000000) (h : Nm.check s.data.toList = n) : Calls Tryz.prog 13 #[.string s] w fun e w' => e = .returned (.int .i64 n) ∧ Below w.heap.size w w' := by
  subst h; exact ncheck_any s w ht hm hs
theorem rck_at (s : ByteArray) (n : Int) (w : World) (hs : s.size ≤ 1000000000000) (h : Nm.check s.data.toList = n) : Calls Tryz.prog 16 #[.string s] w fun e w' => e = .returned (.int .i64 n) ∧ Below w.heap.size w w' := by
  subst h; exact rcheck_any s w hs
theorem gcm_at (x y : Ent) (n : Int) (w : World) (ht : Gl.Tab w) (hm : MaxOk w) (h1 : x.name.size ≤ 1000000000000) (h2 : y.name.size ≤ 1000000000000) (h : Gz.cmp x y = n) :
    Calls Tryz.prog 15 #[.agg #[.string x.name, .int .i64 x.feat, .int .i64 x.sheet, .string x.sq], .agg #[.string y.name, .int .i64 y.feat, .int .i64 y.sheet, .string y.sq]] w fun e w' => e = .returned (.int .i64 n) ∧ Below w.heap.size w w' := by
  subst h; exact gcompare_any x.name x.sq y.name y.sq x.feat x.sheet y.feat y.sheet w ht hm h1 h2
theorem rbf_at (x y : Ent) (b : Bool) (w : World) (h1 : x.name.size ≤ 1000000000000) (h2 : y.name.size ≤ 1000000000000) (h3 : x.sq.size ≤ 1000000000000) (h4 : y.sq.size ≤ 1000000000000) (h : decide (Gz.before x y) = b) :
    Calls Tryz.prog 18 #[.agg #[.string x.name, .int .i64 x.feat, .int .i64 x.sheet, .string x.sq], .agg #[.string y.name, .int .i64 y.feat, .int .i64 y.sheet, .string y.sq]] w fun e w' => e = .returned (.bool b) ∧ Below w.heap.size w w' := by
  subst h; exact rbefore_any x.name x.sq y.name y.sq x.feat x.sheet y.feat y.sheet w h1 h2 h3 h4
set_option maxRecDepth 4000 in
set_option maxHeartbeats 16000000 in
theorem zcheck_any (A : Option Addr) (c n : Nat) (es : List Ent) (w : World) (hn : es.length = n) (hx : n ≤ 1000000000000) (hA : RE w A es) (hsh : Gz.Short es) (ht : Gl.Tab w) (hm : MaxOk w) :
    Calls Tryz.prog 6 #[.slice A n c] w fun e w' => e = .returned (.int .i64 (Gz.check es)) ∧ Below w.heap.size w w' := by
  have HSH := Lib.hid hsh
  have HT0 := Lib.hid ht
  have HM0 := Lib.hid hm
  clear hsh ht hm
  go_enter Tryz.func6, Tryz.ntmps6
  go_wp2_with fail
  go_loopw [12] (fun iv wr => ∃ i : Nat, iv = .int .i64 i ∧ i ≤ n ∧ Hid (∀ j, j < i → Gz.nameOk (en es j)) ∧ Below w.heap.size w wr) (fun iv _ => n - (intOf iv).toNat)
  case atStart => exact ⟨0, rfl, by omega, fun j hj => absurd hj (by omega), Below.refl _ _⟩
  case round =>
    obtain ⟨i, rfl, hi, hall, hbw⟩ := hrel
    have hzr := hbw.size
    by_cases hlt : i < n
    · obtain ⟨b1, o1, rfl, hbb1, hc1⟩ := hA i (by omega)
      obtain ⟨d0, d1, d2, d3⟩ := (hc1 i (by omega)).below hbw hbb1
      clear hc1 hA
      have HZ := Lib.hid (HSH.out i (by omega))
      by_cases hk1 : Gz.nameOk (en es i)
      rotate_left
      · have HB := Lib.hid (Gz.check_name (es := es) (show i < es.length by omega) hk1)
        obtain ⟨m, hm⟩ : ∃ m, Nm.check (en es i).name.data.toList = m := ⟨_, rfl⟩
        have hm0 : (m != 0) = true := bne_iff_ne.2 (fun h => hk1 (by unfold Gz.nameOk; rw [hm, h]))
        have HC := Lib.hid hm
        clear hk1 hm
        go_wp2_with fail
        refine (gck_at (en es i).name m _ (HT0.out.below (hbw.alloc hzr _) (Nat.le_refl _)) (HM0.out.below (hbw.alloc hzr _) (Nat.le_refl _)) HZ.out.1 HC.out).mono ?_
        first | rintro e w1 rfl hb1 | rintro e w1 ⟨rfl, hb1⟩
        go_wp2_with fail
        go_ret
        exact ⟨by rw [HB.out]; rfl, (hbw.alloc hzr _).trans (hb1.mono (by simp; omega))⟩
      have HN := Lib.hid hk1
      have HC := Lib.hid (show Nm.check (en es i).name.data.toList = 0 from hk1)
      clear hk1
      go_wp2_with fail
      refine (gck_at (en es i).name 0 _ (HT0.out.below (hbw.alloc hzr _) (Nat.le_refl _)) (HM0.out.below (hbw.alloc hzr _) (Nat.le_refl _)) HZ.out.1 HC.out).mono ?_
      first | rintro e w1 rfl hb1 | rintro e w1 ⟨rfl, hb1⟩
      go_wp2_with fail
      go_roundw
      case rel => exact ⟨i + 1, by go_num, by omega, all_snoc hall.out HN.out, (hbw.alloc hzr _).trans (hb1.mono (by simp; omega))⟩
      case measure => simp [intOf]; omega
    · have HK : Hid (∀ j, j < es.length → Gz.nameOk (en es j)) := Lib.hid (fun j hj => hall.out j (by omega))
      clear hall
      go_wp2_with fail
      clear hlt hi
      go_loopw [23] (fun iv wr => ∃ i' : Nat, iv = .int .i64 i' ∧ i' ≤ n ∧ Hid (∀ j, j < i' → Gz.rangeOk (en es j)) ∧ Below w.heap.size w wr) (fun iv _ => n - (intOf iv).toNat)
      case atStart => exact ⟨0, rfl, by omega, fun j hj => absurd hj (by omega), hbw⟩
      case round =>
        clear hbw hzr
        rename_i wr0 wr
        rename_i i0 _ _
        obtain ⟨i, rfl, hi, hall, hbw⟩ := hrel
        have hzr := hbw.size
        by_cases hlt : i < n
        · obtain ⟨b1, o1, rfl, hbb1, hc1⟩ := hA i (by omega)
          obtain ⟨d0, d1, d2, d3⟩ := (hc1 i (by omega)).below hbw hbb1
          clear hc1 hA
          by_cases hr1 : 1 ≤ (en es i).feat
          rotate_left
          · have HB := Lib.hid (Gz.check_range (es := es) HK.out (show i < es.length by omega) (by unfold Gz.rangeOk; omega))
            go_wp2_with fail
            go_ret
            exact ⟨by rw [HB.out]; rfl, (hbw.alloc hzr _)⟩
          by_cases hr2 : (en es i).feat ≤ 1073741824
          rotate_left
          · have HB := Lib.hid (Gz.check_range (es := es) HK.out (show i < es.length by omega) (by unfold Gz.rangeOk; omega))
            go_wp2_with fail
            go_ret
            exact ⟨by rw [HB.out]; rfl, (hbw.alloc hzr _)⟩
          by_cases hr3 : 1 ≤ (en es i).sheet
          rotate_left
          · have HB := Lib.hid (Gz.check_range (es := es) HK.out (show i < es.length by omega) (by unfold Gz.rangeOk; omega))
            go_wp2_with fail
            go_ret
            exact ⟨by rw [HB.out]; rfl, (hbw.alloc hzr _)⟩
          by_cases hr4 : (en es i).sheet ≤ 256
          rotate_left
          · have HB := Lib.hid (Gz.check_range (es := es) HK.out (show i < es.length by omega) (by unfold Gz.rangeOk; omega))
            go_wp2_with fail
            go_ret
            exact ⟨by rw [HB.out]; rfl, (hbw.alloc hzr _)⟩
          have HN := Lib.hid (show Gz.rangeOk (en es i) by unfold Gz.rangeOk; omega)
          go_wp2_with fail
          go_roundw
          case rel => exact ⟨i + 1, by go_num, by omega, all_snoc hall.out HN.out, (hbw.alloc hzr _)⟩
          case measure => simp [intOf]; omega
        · have HR : Hid (∀ j, j < es.length → Gz.rangeOk (en es j)) := Lib.hid (fun j hj => hall.out j (by omega))
          clear hall
          go_wp2_with fail
          clear hlt hi
          go_loopw [48] (fun iv wr => ∃ i' : Nat, iv = .int .i64 i' ∧ i' ≤ n ∧ Hid (∀ j, j < i' → Gz.formOk (en es j)) ∧ Below w.heap.size w wr) (fun iv _ => n - (intOf iv).toNat)
          case atStart => exact ⟨0, rfl, by omega, fun j hj => absurd hj (by omega), hbw⟩
          case round =>
            clear hbw hzr
            rename_i wr1 wr
            rename_i i1 _ _
            obtain ⟨i, rfl, hi, hall, hbw⟩ := hrel
            have hzr := hbw.size
            by_cases hlt : i < n
            · obtain ⟨b1, o1, rfl, hbb1, hc1⟩ := hA i (by omega)
              obtain ⟨d0, d1, d2, d3⟩ := (hc1 i (by omega)).below hbw hbb1
              clear hc1 hA
              have HZ := Lib.hid (HSH.out i (by omega))
              by_cases hr : Gz.formOk (en es i)
              rotate_left
              · have HB := Lib.hid (Gz.check_form (es := es) HK.out HR.out (show i < es.length by omega) hr)
                have HC := Lib.hid (decide_eq_false hr)
                clear hr
                go_wp2_with fail
                refine (gsq_at (en es i).sq false _ HZ.out.2 HC.out).mono ?_
                first | rintro e w1 rfl rfl | rintro e w1 ⟨rfl, rfl⟩
                go_wp2_with fail
                go_ret
                exact ⟨by rw [HB.out]; rfl, (hbw.alloc hzr _)⟩
              have HN := Lib.hid hr
              have HC := Lib.hid (decide_eq_true hr)
              clear hr
              go_wp2_with fail
              refine (gsq_at (en es i).sq true _ HZ.out.2 HC.out).mono ?_
              first | rintro e w1 rfl rfl | rintro e w1 ⟨rfl, rfl⟩
              go_wp2_with fail
              go_roundw
              case rel => exact ⟨i + 1, by go_num, by omega, all_snoc hall.out HN.out, (hbw.alloc hzr _)⟩
              case measure => simp [intOf]; omega
            · have HF : Hid (∀ j, j < es.length → Gz.formOk (en es j)) := Lib.hid (fun j hj => hall.out j (by omega))
              clear hall
              go_wp2_with fail
              clear hlt hi
              go_loopw [9] (fun iv wr => ∃ i' : Nat, iv = .int .i64 (i' + 1 : Nat) ∧ (i' = 0 ∨ i' + 1 ≤ n) ∧ Hid (∀ j, j < i' → Gz.before (en es j) (en es (j + 1))) ∧ Below w.heap.size w wr) (fun iv _ => n - (intOf iv).toNat)
              case atStart => exact ⟨0, rfl, Or.inl rfl, fun j hj => absurd hj (by omega), hbw⟩
              case round =>
                clear hbw hzr
                rename_i wr2 wr
                rename_i i2 _ _
                obtain ⟨i, rfl, hi, hall, hbw⟩ := hrel
                have hzr := hbw.size
                have ei : ((i + 1 : Nat) : Int) = (i : Int) + 1 := by omega
                rw [ei]
                clear ei
                by_cases hlt : i + 1 < n
                · obtain ⟨b1, o1, rfl, hbb1, hc1⟩ := hA i (by omega)
                  have p0 := (hc1 i (by omega)).below hbw hbb1
                  have p1 := (hc1 (i + 1) (by omega)).below hbw hbb1
                  have z1 : b1 < wr.heap.size := by omega
                  have HKP : Hid (∀ X, Below wr.heap.size wr X → X.cell? ⟨b1, o1 + i * 4, none⟩ = some (.string (en es i).name) ∧ X.cell? ⟨b1, o1 + i * 4 + 1, none⟩ = some (.int .i64 (en es i).feat) ∧ X.cell? ⟨b1, o1 + i * 4 + 2, none⟩ = some (.int .i64 (en es i).sheet) ∧ X.cell? ⟨b1, o1 + i * 4 + 3, none⟩ = some (.string (en es i).sq) ∧ X.cell? ⟨b1, o1 + (i + 1) * 4, none⟩ = some (.string (en es (i + 1)).name) ∧ X.cell? ⟨b1, o1 + (i + 1) * 4 + 1, none⟩ = some (.int .i64 (en es (i + 1)).feat) ∧ X.cell? ⟨b1, o1 + (i + 1) * 4 + 2, none⟩ = some (.int .i64 (en es (i + 1)).sheet) ∧ X.cell? ⟨b1, o1 + (i + 1) * 4 + 3, none⟩ = some (.string (en es (i + 1)).sq)) :=
                    Lib.hid (fun X hX => ⟨(p0.below hX z1).c0, (p0.below hX z1).c1, (p0.below hX z1).c2, (p0.below hX z1).c3, (p1.below hX z1).c0, (p1.below hX z1).c1, (p1.below hX z1).c2, (p1.below hX z1).c3⟩)
                  clear hc1 hA p0 p1
                  have HZ := Lib.hid (And.intro (HSH.out i (by omega)) (HSH.out (i + 1) (by omega)))
                  have HT : Hid (∀ X, Below wr.heap.size wr X → Gl.Tab X) := Lib.hid (fun X hX => (HT0.out.below hbw (Nat.le_refl _)).below hX (Nat.le_refl _))
                  have HM : Hid (∀ X, Below wr.heap.size wr X → MaxOk X) := Lib.hid (fun X hX => (HM0.out.below hbw (Nat.le_refl _)).below hX (Nat.le_refl _))
                  have x1 : (0 : Int) ≤ i := by omega
                  have x2 : (i : Int) < n := by omega
                  have x3 : (i : Int) + 1 < n := by omega
                  have x4 : IntKind.i64.wrap ((i : Int) + 1 - 1) = i := by rw [show (i : Int) + 1 - 1 = i by omega]; exact IntWalk.i64_in _ (by omega)
                  have x6 : IntKind.i64.wrap (i : Int) = i := IntWalk.i64_in _ (by omega)
                  have y2 : i < n := by omega
                  have y3 : (i : Int) ≤ n := by omega
                  have y4 : (0 : Int) ≤ (i : Int) + 1 := by omega
                  have x5 : ((i : Int) + 1).toNat = i + 1 := by omega
                  obtain ⟨m, hm⟩ : ∃ m, Gz.cmp (en es i) (en es (i + 1)) = m := ⟨_, rfl⟩
                  by_cases g1 : m < 0
                  · have HC := Lib.hid hm
                    have HN := Lib.hid (show Gz.before (en es i) (en es (i + 1)) by unfold Gz.before; omega)
                    clear hm
                    go_wp2_with fail
                    go_region_held3 (fun w' => w'.cell? ⟨b1, o1 + i * 4, none⟩ = some (.string (en es i).name) ∧ w'.cell? ⟨b1, o1 + i * 4 + 1, none⟩ = some (.int .i64 (en es i).feat) ∧ w'.cell? ⟨b1, o1 + i * 4 + 2, none⟩ = some (.int .i64 (en es i).sheet) ∧ w'.cell? ⟨b1, o1 + i * 4 + 3, none⟩ = some (.string (en es i).sq) ∧ w'.cell? ⟨b1, o1 + (i + 1) * 4, none⟩ = some (.string (en es (i + 1)).name) ∧ w'.cell? ⟨b1, o1 + (i + 1) * 4 + 1, none⟩ = some (.int .i64 (en es (i + 1)).feat) ∧ w'.cell? ⟨b1, o1 + (i + 1) * 4 + 2, none⟩ = some (.int .i64 (en es (i + 1)).sheet) ∧ w'.cell? ⟨b1, o1 + (i + 1) * 4 + 3, none⟩ = some (.string (en es (i + 1)).sq))
                  ((first | exact HKP.out _ (by go_grown) | exact HKP.out _ hb7))
                  ((go_at_call 15; refine (gcm_at (en es i) (en es (i + 1)) _ _ (HT.out _ (by go_grown)) (HM.out _ (by go_grown)) HZ.out.1.1 HZ.out.2.1 HC.out).mono ?_; first | rintro e w6 rfl hb6 | rintro e w6 ⟨rfl, hb6⟩; have hb7 : Below wr.heap.size wr w6 := Below.trans (by go_grown) (hb6.mono (by simp)); have hz7 := hb7.size))
                    go_wp2_with fail
                    go_roundw
                    case rel => exact ⟨i + 1, by go_num, by omega, all_snoc hall.out HN.out, hbw.trans (hb7.mono hzr)⟩
                    case measure => simp [intOf]; omega
                  · have HC := Lib.hid hm
                    have HB := Lib.hid (Gz.check_order (es := es) HK.out HR.out HF.out (show i + 1 < es.length by omega) (by unfold Gz.before; omega))
                    have g2 : 0 ≤ m := by omega
                    clear hm
                    go_wp2_with fail
                    go_region_held3 (fun w' => w'.cell? ⟨b1, o1 + i * 4, none⟩ = some (.string (en es i).name) ∧ w'.cell? ⟨b1, o1 + i * 4 + 1, none⟩ = some (.int .i64 (en es i).feat) ∧ w'.cell? ⟨b1, o1 + i * 4 + 2, none⟩ = some (.int .i64 (en es i).sheet) ∧ w'.cell? ⟨b1, o1 + i * 4 + 3, none⟩ = some (.string (en es i).sq) ∧ w'.cell? ⟨b1, o1 + (i + 1) * 4, none⟩ = some (.string (en es (i + 1)).name) ∧ w'.cell? ⟨b1, o1 + (i + 1) * 4 + 1, none⟩ = some (.int .i64 (en es (i + 1)).feat) ∧ w'.cell? ⟨b1, o1 + (i + 1) * 4 + 2, none⟩ = some (.int .i64 (en es (i + 1)).sheet) ∧ w'.cell? ⟨b1, o1 + (i + 1) * 4 + 3, none⟩ = some (.string (en es (i + 1)).sq))
                  ((first | exact HKP.out _ (by go_grown) | exact HKP.out _ hb7))
                  ((go_at_call 15; refine (gcm_at (en es i) (en es (i + 1)) _ _ (HT.out _ (by go_grown)) (HM.out _ (by go_grown)) HZ.out.1.1 HZ.out.2.1 HC.out).mono ?_; first | rintro e w6 rfl hb6 | rintro e w6 ⟨rfl, hb6⟩; have hb7 : Below wr.heap.size wr w6 := Below.trans (by go_grown) (hb6.mono (by simp)); have hz7 := hb7.size))
                    go_wp2_with fail
                    go_ret
                    exact ⟨by rw [HB.out]; rfl, hbw.trans (hb7.mono hzr)⟩
                · have HB := Lib.hid (Gz.check_ok (es := es) HK.out HR.out HF.out (fun j hj => hall.out j (by omega)))
                  go_wp2_with fail
                  go_ret
                  exact ⟨by rw [HB.out]; rfl, hbw⟩
set_option maxRecDepth 4000 in
set_option maxHeartbeats 16000000 in
theorem r52check_any (A : Option Addr) (c n : Nat) (es : List Ent) (w : World) (hn : es.length = n) (hx : n ≤ 1000000000000) (hA : RE w A es) (hsh : Gz.Short es) :
    Calls Tryz.prog 7 #[.slice A n c] w fun e w' => e = .returned (.int .i64 (Gz.check es)) ∧ Below w.heap.size w w' := by
  have HSH := Lib.hid hsh
  skip
  skip
  clear hsh 
  go_enter Tryz.func7, Tryz.ntmps7
  go_wp2_with fail
  go_loopw [3] (fun iv wr => ∃ i : Nat, iv = .int .i64 i ∧ i ≤ n ∧ Hid (∀ j, j < i → Gz.nameOk (en es j)) ∧ Below w.heap.size w wr) (fun iv _ => n - (intOf iv).toNat)
  case atStart => exact ⟨0, rfl, by omega, fun j hj => absurd hj (by omega), Below.refl _ _⟩
  case round =>
    obtain ⟨i, rfl, hi, hall, hbw⟩ := hrel
    have hzr := hbw.size
    by_cases hlt : i < n
    · obtain ⟨b1, o1, rfl, hbb1, hc1⟩ := hA i (by omega)
      obtain ⟨d0, d1, d2, d3⟩ := (hc1 i (by omega)).below hbw hbb1
      clear hc1 hA
      have HZ := Lib.hid (HSH.out i (by omega))
      by_cases hk1 : Gz.nameOk (en es i)
      rotate_left
      · have HB := Lib.hid (Gz.check_name (es := es) (show i < es.length by omega) hk1)
        obtain ⟨m, hm⟩ : ∃ m, Nm.check (en es i).name.data.toList = m := ⟨_, rfl⟩
        have hm0 : (m != 0) = true := bne_iff_ne.2 (fun h => hk1 (by unfold Gz.nameOk; rw [hm, h]))
        have HC := Lib.hid hm
        clear hk1 hm
        go_wp2_with fail
        refine (rck_at (en es i).name m _ HZ.out.1 HC.out).mono ?_
        first | rintro e w1 rfl hb1 | rintro e w1 ⟨rfl, hb1⟩
        go_wp2_with fail
        go_ret
        exact ⟨by rw [HB.out]; rfl, hbw.trans (hb1.mono hbw.size)⟩
      have HN := Lib.hid hk1
      have HC := Lib.hid (show Nm.check (en es i).name.data.toList = 0 from hk1)
      clear hk1
      go_wp2_with fail
      refine (rck_at (en es i).name 0 _ HZ.out.1 HC.out).mono ?_
      first | rintro e w1 rfl hb1 | rintro e w1 ⟨rfl, hb1⟩
      go_wp2_with fail
      go_roundw
      case rel => exact ⟨i + 1, by go_num, by omega, all_snoc hall.out HN.out, hbw.trans (hb1.mono hbw.size)⟩
      case measure => simp [intOf]; omega
    · have HK : Hid (∀ j, j < es.length → Gz.nameOk (en es j)) := Lib.hid (fun j hj => hall.out j (by omega))
      clear hall
      go_wp2_with fail
      clear hlt hi
      go_loopw [4] (fun iv wr => ∃ i' : Nat, iv = .int .i64 i' ∧ i' ≤ n ∧ Hid (∀ j, j < i' → Gz.rangeOk (en es j)) ∧ Below w.heap.size w wr) (fun iv _ => n - (intOf iv).toNat)
      case atStart => exact ⟨0, rfl, by omega, fun j hj => absurd hj (by omega), hbw⟩
      case round =>
        clear hbw hzr
        rename_i wr0 wr
        rename_i i0 _ _
        obtain ⟨i, rfl, hi, hall, hbw⟩ := hrel
        have hzr := hbw.size
        by_cases hlt : i < n
        · obtain ⟨b1, o1, rfl, hbb1, hc1⟩ := hA i (by omega)
          obtain ⟨d0, d1, d2, d3⟩ := (hc1 i (by omega)).below hbw hbb1
          clear hc1 hA
          by_cases hr1 : 1 ≤ (en es i).feat
          rotate_left
          · have HB := Lib.hid (Gz.check_range (es := es) HK.out (show i < es.length by omega) (by unfold Gz.rangeOk; omega))
            go_wp2_with fail
            go_ret
            exact ⟨by rw [HB.out]; rfl, hbw⟩
          by_cases hr2 : (en es i).feat ≤ 1073741824
          rotate_left
          · have HB := Lib.hid (Gz.check_range (es := es) HK.out (show i < es.length by omega) (by unfold Gz.rangeOk; omega))
            go_wp2_with fail
            go_ret
            exact ⟨by rw [HB.out]; rfl, hbw⟩
          by_cases hr3 : 1 ≤ (en es i).sheet
          rotate_left
          · have HB := Lib.hid (Gz.check_range (es := es) HK.out (show i < es.length by omega) (by unfold Gz.rangeOk; omega))
            go_wp2_with fail
            go_ret
            exact ⟨by rw [HB.out]; rfl, hbw⟩
          by_cases hr4 : (en es i).sheet ≤ 256
          rotate_left
          · have HB := Lib.hid (Gz.check_range (es := es) HK.out (show i < es.length by omega) (by unfold Gz.rangeOk; omega))
            go_wp2_with fail
            go_ret
            exact ⟨by rw [HB.out]; rfl, hbw⟩
          have HN := Lib.hid (show Gz.rangeOk (en es i) by unfold Gz.rangeOk; omega)
          go_wp2_with fail
          go_roundw
          case rel => exact ⟨i + 1, by go_num, by omega, all_snoc hall.out HN.out, hbw⟩
          case measure => simp [intOf]; omega
        · have HR : Hid (∀ j, j < es.length → Gz.rangeOk (en es j)) := Lib.hid (fun j hj => hall.out j (by omega))
          clear hall
          go_wp2_with fail
          clear hlt hi
          go_loopw [5] (fun iv wr => ∃ i' : Nat, iv = .int .i64 i' ∧ i' ≤ n ∧ Hid (∀ j, j < i' → Gz.formOk (en es j)) ∧ Below w.heap.size w wr) (fun iv _ => n - (intOf iv).toNat)
          case atStart => exact ⟨0, rfl, by omega, fun j hj => absurd hj (by omega), hbw⟩
          case round =>
            clear hbw hzr
            rename_i wr1 wr
            rename_i i1 _ _
            obtain ⟨i, rfl, hi, hall, hbw⟩ := hrel
            have hzr := hbw.size
            by_cases hlt : i < n
            · obtain ⟨b1, o1, rfl, hbb1, hc1⟩ := hA i (by omega)
              obtain ⟨d0, d1, d2, d3⟩ := (hc1 i (by omega)).below hbw hbb1
              clear hc1 hA
              have HZ := Lib.hid (HSH.out i (by omega))
              by_cases hr : Gz.formOk (en es i)
              rotate_left
              · have HB := Lib.hid (Gz.check_form (es := es) HK.out HR.out (show i < es.length by omega) hr)
                have HC := Lib.hid (decide_eq_false hr)
                clear hr
                go_wp2_with fail
                refine (rfm_at (en es i).sq false _ HZ.out.2 HC.out).mono ?_
                first | rintro e w1 rfl rfl | rintro e w1 ⟨rfl, rfl⟩
                go_wp2_with fail
                go_ret
                exact ⟨by rw [HB.out]; rfl, hbw⟩
              have HN := Lib.hid hr
              have HC := Lib.hid (decide_eq_true hr)
              clear hr
              go_wp2_with fail
              refine (rfm_at (en es i).sq true _ HZ.out.2 HC.out).mono ?_
              first | rintro e w1 rfl rfl | rintro e w1 ⟨rfl, rfl⟩
              go_wp2_with fail
              go_roundw
              case rel => exact ⟨i + 1, by go_num, by omega, all_snoc hall.out HN.out, hbw⟩
              case measure => simp [intOf]; omega
            · have HF : Hid (∀ j, j < es.length → Gz.formOk (en es j)) := Lib.hid (fun j hj => hall.out j (by omega))
              clear hall
              go_wp2_with fail
              clear hlt hi
              go_loopw [6] (fun iv wr => ∃ i' : Nat, iv = .int .i64 (i' + 1 : Nat) ∧ (i' = 0 ∨ i' + 1 ≤ n) ∧ Hid (∀ j, j < i' → Gz.before (en es j) (en es (j + 1))) ∧ Below w.heap.size w wr) (fun iv _ => n - (intOf iv).toNat)
              case atStart => exact ⟨0, rfl, Or.inl rfl, fun j hj => absurd hj (by omega), hbw⟩
              case round =>
                clear hbw hzr
                rename_i wr2 wr
                rename_i i2 _ _
                obtain ⟨i, rfl, hi, hall, hbw⟩ := hrel
                have hzr := hbw.size
                have ei : ((i + 1 : Nat) : Int) = (i : Int) + 1 := by omega
                rw [ei]
                clear ei
                by_cases hlt : i + 1 < n
                · obtain ⟨b1, o1, rfl, hbb1, hc1⟩ := hA i (by omega)
                  have p0 := (hc1 i (by omega)).below hbw hbb1
                  have p1 := (hc1 (i + 1) (by omega)).below hbw hbb1
                  have z1 : b1 < wr.heap.size := by omega
                  have HKP : Hid (∀ X, Below wr.heap.size wr X → X.cell? ⟨b1, o1 + i * 4, none⟩ = some (.string (en es i).name) ∧ X.cell? ⟨b1, o1 + i * 4 + 1, none⟩ = some (.int .i64 (en es i).feat) ∧ X.cell? ⟨b1, o1 + i * 4 + 2, none⟩ = some (.int .i64 (en es i).sheet) ∧ X.cell? ⟨b1, o1 + i * 4 + 3, none⟩ = some (.string (en es i).sq) ∧ X.cell? ⟨b1, o1 + (i + 1) * 4, none⟩ = some (.string (en es (i + 1)).name) ∧ X.cell? ⟨b1, o1 + (i + 1) * 4 + 1, none⟩ = some (.int .i64 (en es (i + 1)).feat) ∧ X.cell? ⟨b1, o1 + (i + 1) * 4 + 2, none⟩ = some (.int .i64 (en es (i + 1)).sheet) ∧ X.cell? ⟨b1, o1 + (i + 1) * 4 + 3, none⟩ = some (.string (en es (i + 1)).sq)) :=
                    Lib.hid (fun X hX => ⟨(p0.below hX z1).c0, (p0.below hX z1).c1, (p0.below hX z1).c2, (p0.below hX z1).c3, (p1.below hX z1).c0, (p1.below hX z1).c1, (p1.below hX z1).c2, (p1.below hX z1).c3⟩)
                  clear hc1 hA p0 p1
                  have HZ := Lib.hid (And.intro (HSH.out i (by omega)) (HSH.out (i + 1) (by omega)))
                  skip
                  have x1 : (0 : Int) ≤ i := by omega
                  have x2 : (i : Int) < n := by omega
                  have x3 : (i : Int) + 1 < n := by omega
                  have x4 : IntKind.i64.wrap ((i : Int) + 1 - 1) = i := by rw [show (i : Int) + 1 - 1 = i by omega]; exact IntWalk.i64_in _ (by omega)
                  have x6 : IntKind.i64.wrap (i : Int) = i := IntWalk.i64_in _ (by omega)
                  have y2 : i < n := by omega
                  have y3 : (i : Int) ≤ n := by omega
                  have y4 : (0 : Int) ≤ (i : Int) + 1 := by omega
                  have x5 : ((i : Int) + 1).toNat = i + 1 := by omega
                  skip
                  by_cases g1 : Gz.before (en es i) (en es (i + 1))
                  · have HC := Lib.hid (decide_eq_true g1)
                    have HN := Lib.hid g1
                    clear g1
                    go_wp2_with fail
                    go_region_held3 (fun w' => w'.cell? ⟨b1, o1 + i * 4, none⟩ = some (.string (en es i).name) ∧ w'.cell? ⟨b1, o1 + i * 4 + 1, none⟩ = some (.int .i64 (en es i).feat) ∧ w'.cell? ⟨b1, o1 + i * 4 + 2, none⟩ = some (.int .i64 (en es i).sheet) ∧ w'.cell? ⟨b1, o1 + i * 4 + 3, none⟩ = some (.string (en es i).sq) ∧ w'.cell? ⟨b1, o1 + (i + 1) * 4, none⟩ = some (.string (en es (i + 1)).name) ∧ w'.cell? ⟨b1, o1 + (i + 1) * 4 + 1, none⟩ = some (.int .i64 (en es (i + 1)).feat) ∧ w'.cell? ⟨b1, o1 + (i + 1) * 4 + 2, none⟩ = some (.int .i64 (en es (i + 1)).sheet) ∧ w'.cell? ⟨b1, o1 + (i + 1) * 4 + 3, none⟩ = some (.string (en es (i + 1)).sq))
                  ((first | exact HKP.out _ (by go_grown) | exact HKP.out _ hb7))
                  ((go_at_call 18; refine (rbf_at (en es i) (en es (i + 1)) _ _ HZ.out.1.1 HZ.out.2.1 HZ.out.1.2 HZ.out.2.2 HC.out).mono ?_; first | rintro e w6 rfl hb6 | rintro e w6 ⟨rfl, hb6⟩; have hb7 : Below wr.heap.size wr w6 := Below.trans (by go_grown) (hb6.mono (by simp)); have hz7 := hb7.size))
                    go_wp2_with fail
                    go_roundw
                    case rel => exact ⟨i + 1, by go_num, by omega, all_snoc hall.out HN.out, hbw.trans (hb7.mono hzr)⟩
                    case measure => simp [intOf]; omega
                  · have HC := Lib.hid (decide_eq_false g1)
                    have HB := Lib.hid (Gz.check_order (es := es) HK.out HR.out HF.out (show i + 1 < es.length by omega) g1)
                    clear g1
                    go_wp2_with fail
                    go_region_held3 (fun w' => w'.cell? ⟨b1, o1 + i * 4, none⟩ = some (.string (en es i).name) ∧ w'.cell? ⟨b1, o1 + i * 4 + 1, none⟩ = some (.int .i64 (en es i).feat) ∧ w'.cell? ⟨b1, o1 + i * 4 + 2, none⟩ = some (.int .i64 (en es i).sheet) ∧ w'.cell? ⟨b1, o1 + i * 4 + 3, none⟩ = some (.string (en es i).sq) ∧ w'.cell? ⟨b1, o1 + (i + 1) * 4, none⟩ = some (.string (en es (i + 1)).name) ∧ w'.cell? ⟨b1, o1 + (i + 1) * 4 + 1, none⟩ = some (.int .i64 (en es (i + 1)).feat) ∧ w'.cell? ⟨b1, o1 + (i + 1) * 4 + 2, none⟩ = some (.int .i64 (en es (i + 1)).sheet) ∧ w'.cell? ⟨b1, o1 + (i + 1) * 4 + 3, none⟩ = some (.string (en es (i + 1)).sq))
                  ((first | exact HKP.out _ (by go_grown) | exact HKP.out _ hb7))
                  ((go_at_call 18; refine (rbf_at (en es i) (en es (i + 1)) _ _ HZ.out.1.1 HZ.out.2.1 HZ.out.1.2 HZ.out.2.2 HC.out).mono ?_; first | rintro e w6 rfl hb6 | rintro e w6 ⟨rfl, hb6⟩; have hb7 : Below wr.heap.size wr w6 := Below.trans (by go_grown) (hb6.mono (by simp)); have hz7 := hb7.size))
                    go_wp2_with fail
                    go_ret
                    exact ⟨by rw [HB.out]; rfl, hbw.trans (hb7.mono hzr)⟩
                · have HB := Lib.hid (Gz.check_ok (es := es) HK.out HR.out HF.out (fun j hj => hall.out j (by omega)))
                  go_wp2_with fail
                  go_ret
                  exact ⟨by rw [HB.out]; rfl, hbw⟩
end Go.Proofs.YtcbobceggjndlaaGreatDoor
