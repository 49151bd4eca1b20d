/-
  Entries of the gazetteer: compare.
-/
import Derived.Test.YtcbobceggjndlaaGreatDoorGzB
set_option linter.unusedVariables false
set_option linter.unusedSimpArgs false
namespace Go.Proofs.YtcbobceggjndlaaGreatDoor
open Go.RowKit

/-- An entry. -/
structure Ent where
  name : ByteArray
  feat : Int
  sheet : Int
  sq : ByteArray
/-- The first number that is not 0. -/
def Gz.or : List Int → Int
  | [] => 0
  | x :: l => if x = 0 then Gz.or l else x
theorem Gz.or_step {l : List Int} {i : Nat} (h : i < l.length) : Gz.or (l.drop i) = if gi l i = 0 then Gz.or (l.drop (i + 1)) else gi l i := by
  rw [List.drop_eq_getElem_cons h, Gz.or, gi_eq h]
/-- The order of entries. -/
def Gz.cmp (x y : Ent) : Int := Gz.or [Nm.cmp x.name.data.toList y.name.data.toList, Lib.compareInt x.sheet y.sheet, Lib.compareBytes x.sq.data.toList y.sq.data.toList, Lib.compareInt x.feat y.feat]

set_option maxHeartbeats 4000000 in
theorem or_any (A : Option Addr) (c n : Nat) (xs : List Int) (w : World) (hn : xs.length = n) (hx : n ≤ 1000000000000) (hA : RI w A xs) :
    Calls Tryz.prog 31 #[.slice A n c] w fun e w' => e = .returned (.int .i64 (Gz.or xs)) ∧ w = w' := by
  go_enter Tryz.func31, Tryz.ntmps31
  go_wp2_with fail
  go_loop [5, 8] (fun _ iv => ∃ i : Nat, iv = .int .i64 i ∧ i ≤ n ∧ Hid (Gz.or xs = Gz.or (xs.drop i))) (fun _ iv => n - (intOf iv).toNat)
  case atStart => exact ⟨0, rfl, by omega, Lib.hid (by simp)⟩
  case round =>
    obtain ⟨i, rfl, hi, HC⟩ := hrel
    by_cases hlt : i < n
    · obtain ⟨b1, o1, rfl, hbb1, hc1⟩ := hA i (by omega)
      have d0 := hc1 i (by omega)
      clear hc1 hA
      have HS := Lib.hid (Gz.or_step (l := xs) (i := i) (by omega))
      by_cases h0 : gi xs i = 0
      · have y1 : (gi xs i != 0) = false := by rw [h0]; rfl
        have HT := Lib.hid (show Gz.or xs = Gz.or (xs.drop (i + 1)) by rw [HC.out, HS.out, if_pos h0])
        clear h0
        go_wp2_with fail
        go_round
        case rel => exact ⟨i + 1, by go_num, by omega, HT⟩
        case measure => simp [intOf]; omega
      · have y1 : (gi xs i != 0) = true := bne_iff_ne.2 h0
        have HT := Lib.hid (show Gz.or xs = gi xs i by rw [HC.out, HS.out, if_neg h0])
        clear h0
        go_wp2_with fail
        go_ret
        exact ⟨ret_int HT.out.symm, rfl⟩
    · have HT := Lib.hid (show Gz.or xs = 0 by rw [HC.out, List.drop_eq_nil_of_le (by omega)]; rfl)
      go_wp2_with fail
      go_ret
      exact ⟨ret_int HT.out.symm, rfl⟩
theorem RI.new4 (w : World) (t : TypeId) (a b c d : Int) (g : Nat) (h : w.heap.size = g) : RI (w.alloc (.cells #[.int .i64 a, .int .i64 b, .int .i64 c, .int .i64 d] t)) (some ⟨g, 0, none⟩) [a, b, c, d] := fun k _ => by
  subst h
  refine ⟨w.heap.size, 0, rfl, by simp, fun j hj => ?_⟩
  have hk := Bk.new w #[.int .i64 a, .int .i64 b, .int .i64 c, .int .i64 d] t
  simp at hj
  match j, hj with
  | 0, _ => exact hk.cell 0
  | 1, _ => exact hk.cell 1
  | 2, _ => exact hk.cell 2
  | 3, _ => exact hk.cell 3
attribute [local go_sem ↓] Go.wp_at_zero Go.wp_at_succ

set_option maxHeartbeats 40000000 in
set_option maxRecDepth 4000 in
theorem gcompare_any (xn xs yn ys : ByteArray) (xf xh yf yh : Int) (w : World) (ht : Gl.Tab w) (hm : MaxOk w) (h1 : xn.size ≤ 1000000000000) (h2 : yn.size ≤ 1000000000000) :
    Calls Tryz.prog 15 #[.agg #[.string xn, .int .i64 xf, .int .i64 xh, .string xs], .agg #[.string yn, .int .i64 yf, .int .i64 yh, .string ys]] w fun e w' =>
      e = .returned (.int .i64 (Gz.cmp ⟨xn, xf, xh, xs⟩ ⟨yn, yf, yh, ys⟩)) ∧ Below w.heap.size w w' := by
  have HT0 := Lib.hid ht
  have HM0 := Lib.hid hm
  clear ht hm
  go_enter Tryz.func15, Tryz.ntmps15
  go_upto_region 1 with fail
  obtain ⟨W1, hW⟩ : ∃ X, (w.alloc (.cells #[.string xn, .int .i64 xf, .int .i64 xh, .string xs] 29)).alloc (.cells #[.string yn, .int .i64 yf, .int .i64 yh, .string ys] 29) = X := ⟨_, rfl⟩
  have hb1 : Below w.heap.size w W1 := by rw [← hW]; exact ((Below.refl _ _).alloc (Nat.le_refl _) _).alloc (by simp) _
  have k0 : Bk W1 w.heap.size 29 #[.string xn, .int .i64 xf, .int .i64 xh, .string xs] := by rw [← hW]; exact (Bk.new _ _ _).below ((Below.refl _ _).alloc (Nat.le_refl _) _) (by simp)
  have k1 : Bk W1 (w.heap.size + 1) 29 #[.string yn, .int .i64 yf, .int .i64 yh, .string ys] := by
    rw [← hW]
    have := Bk.new (w.alloc (.cells #[.string xn, .int .i64 xf, .int .i64 xh, .string xs] 29)) #[.string yn, .int .i64 yf, .int .i64 yh, .string ys] 29
    simpa using this
  rw [hW]
  clear hW
  have z0 := k0.lt
  have z1 := k1.lt
  have HT : Hid (∀ X, Below W1.heap.size W1 X → Gl.Tab X) := Lib.hid (fun X hX => (HT0.out.below hb1 (Nat.le_refl _)).below hX (Nat.le_refl _))
  have HM : Hid (∀ X, Below W1.heap.size W1 X → MaxOk X) := Lib.hid (fun X hX => (HM0.out.below hb1 (Nat.le_refl _)).below hX (Nat.le_refl _))
  have HKP : Hid (∀ X, Below W1.heap.size W1 X → X.cell? ⟨w.heap.size, 0, none⟩ = some (.string xn) ∧ X.cell? ⟨w.heap.size, 1, none⟩ = some (.int .i64 xf) ∧ X.cell? ⟨w.heap.size, 2, none⟩ = some (.int .i64 xh) ∧ X.cell? ⟨w.heap.size, 3, none⟩ = some (.string xs) ∧
      X.cell? ⟨w.heap.size + 1, 0, none⟩ = some (.string yn) ∧ X.cell? ⟨w.heap.size + 1, 1, none⟩ = some (.int .i64 yf) ∧ X.cell? ⟨w.heap.size + 1, 2, none⟩ = some (.int .i64 yh) ∧ X.cell? ⟨w.heap.size + 1, 3, none⟩ = some (.string ys)) :=
    Lib.hid (fun X hX => ⟨(k0.below hX z0).cell 0, (k0.below hX z0).cell 1, (k0.below hX z0).cell 2, (k0.below hX z0).cell 3, (k1.below hX z1).cell 0, (k1.below hX z1).cell 1, (k1.below hX z1).cell 2, (k1.below hX z1).cell 3⟩)
  clear k0 k1
  go_region_held3 (fun w' => w'.cell? ⟨w.heap.size, 0, none⟩ = some (.string xn) ∧ w'.cell? ⟨w.heap.size, 1, none⟩ = some (.int .i64 xf) ∧ w'.cell? ⟨w.heap.size, 2, none⟩ = some (.int .i64 xh) ∧ w'.cell? ⟨w.heap.size, 3, none⟩ = some (.string xs) ∧
      w'.cell? ⟨w.heap.size + 1, 0, none⟩ = some (.string yn) ∧ w'.cell? ⟨w.heap.size + 1, 1, none⟩ = some (.int .i64 yf) ∧ w'.cell? ⟨w.heap.size + 1, 2, none⟩ = some (.int .i64 yh) ∧ w'.cell? ⟨w.heap.size + 1, 3, none⟩ = some (.string ys))
    ((first | exact HKP.out _ (by go_grown) | exact HKP.out _ hb7 | exact HKP.out _ (hb7.alloc (by simp; omega) _)))
    (first | (go_at_call 32; refine (ncmp_any xn yn _ (HT.out _ (by go_grown)) (HM.out _ (by go_grown)) h1 h2).mono ?_; first | rintro e w6 rfl hb6 | rintro e w6 ⟨rfl, hb6⟩; have hb7 : Below W1.heap.size W1 w6 := Below.trans (by go_grown) (hb6.mono (by simp)); have hz7 := hb7.size) | (go_at_call 33; refine (Tryz.cmp_Compare_int _ _ _).mono ?_; first | rintro e w5 rfl rfl | rintro e w5 ⟨rfl, rfl⟩) | (go_at_call 34; refine (Tryz.strings_Compare _ _ _).mono ?_; first | rintro e w5 rfl rfl | rintro e w5 ⟨rfl, rfl⟩) | (go_at_call 31; refine (or_any _ 4 4 [_, _, _, _] _ rfl (by omega) (RI.new4 _ _ _ _ _ _ _ (by simp))).mono ?_; first | rintro e w5 rfl rfl | rintro e w5 ⟨rfl, rfl⟩))
  go_wp2_with fail
  go_ret
  exact ⟨rfl, hb1.trans ((hb7.alloc hz7 _).mono hb1.size)⟩
/-- Does an entry come before another one? -/
def Gz.before (x y : Ent) : Prop := Gz.cmp x y < 0
instance (x y : Ent) : Decidable (Gz.before x y) := by unfold Gz.before; infer_instance
theorem Gz.before_name {x y : Ent} {n : Int} (h : Nm.cmp x.name.data.toList y.name.data.toList = n) (h0 : n ≠ 0) : decide (n < 0) = decide (Gz.before x y) := by
  unfold Gz.before Gz.cmp; simp [Gz.or, h, h0]
theorem Gz.before_sheet {x y : Ent} (h : Nm.cmp x.name.data.toList y.name.data.toList = 0) (h0 : x.sheet ≠ y.sheet) : decide (x.sheet < y.sheet) = decide (Gz.before x y) := by
  unfold Gz.before Gz.cmp
  simp only [Gz.or, h, Lib.compareInt]
  by_cases h1 : x.sheet < y.sheet
  · simp [h1]
  · simp [h1, show y.sheet < x.sheet by omega]
theorem Gz.before_sq {x y : Ent} {n : Int} (h : Nm.cmp x.name.data.toList y.name.data.toList = 0) (h0 : x.sheet = y.sheet) (hs : Sgn n (Lib.compareBytes x.sq.data.toList y.sq.data.toList)) (hn : n ≠ 0) : decide (n < 0) = decide (Gz.before x y) := by
  unfold Gz.before Gz.cmp
  have e : Lib.compareInt x.sheet y.sheet = 0 := by unfold Lib.compareInt; rw [h0]; simp
  have h3 : Lib.compareBytes x.sq.data.toList y.sq.data.toList ≠ 0 := fun h => hn (hs.1.2 h)
  simp only [Gz.or, h, e, if_true, if_neg h3]
  exact decide_eq_decide.2 hs.2
theorem Gz.before_feat {x y : Ent} {n : Int} (h : Nm.cmp x.name.data.toList y.name.data.toList = 0) (h0 : x.sheet = y.sheet) (hs : Sgn n (Lib.compareBytes x.sq.data.toList y.sq.data.toList)) (hn : n = 0) : decide (x.feat < y.feat) = decide (Gz.before x y) := by
  unfold Gz.before Gz.cmp
  have e : Lib.compareInt x.sheet y.sheet = 0 := by unfold Lib.compareInt; rw [h0]; simp
  have h3 : Lib.compareBytes x.sq.data.toList y.sq.data.toList = 0 := hs.1.1 hn
  simp only [Gz.or, h, e, h3, if_true]
  unfold Lib.compareInt
  by_cases h1 : x.feat < y.feat
  · simp [h1]
  · by_cases h2 : y.feat < x.feat
    · simp [h1, h2]
    · simp [h1, h2]

set_option maxHeartbeats 40000000 in
set_option maxRecDepth 4000 in
theorem rbefore_any (xn xs yn ys : ByteArray) (xf xh yf yh : Int) (w : World) (h1 : xn.size ≤ 1000000000000) (h2 : yn.size ≤ 1000000000000) (h3 : xs.size ≤ 1000000000000) (h4 : ys.size ≤ 1000000000000) :
    Calls Tryz.prog 18 #[.agg #[.string xn, .int .i64 xf, .int .i64 xh, .string xs], .agg #[.string yn, .int .i64 yf, .int .i64 yh, .string ys]] w fun e w' =>
      e = .returned (.bool (decide (Gz.before ⟨xn, xf, xh, xs⟩ ⟨yn, yf, yh, ys⟩))) ∧ Below w.heap.size w w' := by
  go_enter Tryz.func18, Tryz.ntmps18
  go_upto_region 1 with fail
  obtain ⟨W1, hW⟩ : ∃ X, (w.alloc (.cells #[.string xn, .int .i64 xf, .int .i64 xh, .string xs] 29)).alloc (.cells #[.string yn, .int .i64 yf, .int .i64 yh, .string ys] 29) = X := ⟨_, rfl⟩
  have hb1 : Below w.heap.size w W1 := by rw [← hW]; exact ((Below.refl _ _).alloc (Nat.le_refl _) _).alloc (by simp) _
  have k0 : Bk W1 w.heap.size 29 #[.string xn, .int .i64 xf, .int .i64 xh, .string xs] := by rw [← hW]; exact (Bk.new _ _ _).below ((Below.refl _ _).alloc (Nat.le_refl _) _) (by simp)
  have k1 : Bk W1 (w.heap.size + 1) 29 #[.string yn, .int .i64 yf, .int .i64 yh, .string ys] := by
    rw [← hW]
    have := Bk.new (w.alloc (.cells #[.string xn, .int .i64 xf, .int .i64 xh, .string xs] 29)) #[.string yn, .int .i64 yf, .int .i64 yh, .string ys] 29
    simpa using this
  have z0 := k0.lt
  have z1 := k1.lt
  rw [hW]
  clear hW
  have a0 : W1.cell? ⟨w.heap.size, 0, none⟩ = some (.string xn) := k0.cell 0
  have b0 : W1.cell? ⟨w.heap.size + 1, 0, none⟩ = some (.string yn) := k1.cell 0
  go_wp2_with (go_at_call 39; refine (rcmp_any _ _ _ h1 h2).mono ?_)
  obtain ⟨n, hn⟩ : ∃ n, Nm.cmp xn.data.toList yn.data.toList = n := ⟨_, rfl⟩
  rw [hn]
  first | rintro e w2 rfl hb2 | rintro e w2 ⟨rfl, hb2⟩
  have j0 := k0.below hb2 z0
  have j1 := k1.below hb2 z1
  clear a0 b0
  have a0 : w2.cell? ⟨w.heap.size, 1, none⟩ = some (.int .i64 xf) := j0.cell 1
  have a1 : w2.cell? ⟨w.heap.size, 2, none⟩ = some (.int .i64 xh) := j0.cell 2
  have a2 : w2.cell? ⟨w.heap.size, 3, none⟩ = some (.string xs) := j0.cell 3
  have b0 : w2.cell? ⟨w.heap.size + 1, 1, none⟩ = some (.int .i64 yf) := j1.cell 1
  have b1 : w2.cell? ⟨w.heap.size + 1, 2, none⟩ = some (.int .i64 yh) := j1.cell 2
  have b2 : w2.cell? ⟨w.heap.size + 1, 3, none⟩ = some (.string ys) := j1.cell 3
  have hb02 := hb1.trans (hb2.mono hb1.size)
  by_cases n0 : n = 0
  rotate_left
  · have HB := Lib.hid (Gz.before_name (x := ⟨xn, xf, xh, xs⟩) (y := ⟨yn, yf, yh, ys⟩) hn n0)
    have y0 : (n != 0) = true := bne_iff_ne.2 n0
    clear n0 hn
    go_wp2_with fail
    go_ret
    exact ⟨ret_bool HB.out, hb02⟩
  subst n0
  by_cases n1 : xh = yh
  rotate_left
  · have HB := Lib.hid (Gz.before_sheet (x := ⟨xn, xf, xh, xs⟩) (y := ⟨yn, yf, yh, ys⟩) hn n1)
    have y0 : (xh != yh) = true := bne_iff_ne.2 n1
    clear n1 hn
    go_wp2_with fail
    go_ret
    exact ⟨ret_bool HB.out, hb02⟩
  have HN := Lib.hid hn
  have H1 := Lib.hid n1
  have y0 : (xh != yh) = false := by rw [n1]; simp
  clear hn n1
  go_wp2_with (go_at_call 40; refine (rtext_any _ _ _ h3 h4).mono ?_)
  rintro e w3 ⟨n, rfl, hsg, hb3⟩
  have hb03 := hb02.trans (hb3.mono hb02.size)
  have i0 := j0.below hb3 j0.lt
  have i1 := j1.below hb3 j1.lt
  clear a0 a1 a2 b0 b1 b2
  have a0 : w3.cell? ⟨w.heap.size, 1, none⟩ = some (.int .i64 xf) := i0.cell 1
  have b0 : w3.cell? ⟨w.heap.size + 1, 1, none⟩ = some (.int .i64 yf) := i1.cell 1
  by_cases n2 : n = 0
  · have HB := Lib.hid (Gz.before_feat (x := ⟨xn, xf, xh, xs⟩) (y := ⟨yn, yf, yh, ys⟩) HN.out H1.out hsg n2)
    clear hsg
    subst n2
    go_wp2_with fail
    go_ret
    exact ⟨ret_bool HB.out, hb03⟩
  · have HB := Lib.hid (Gz.before_sq (x := ⟨xn, xf, xh, xs⟩) (y := ⟨yn, yf, yh, ys⟩) HN.out H1.out hsg n2)
    have y1 : (n != 0) = true := bne_iff_ne.2 n2
    clear hsg n2
    go_wp2_with fail
    go_ret
    exact ⟨ret_bool HB.out, hb03⟩
end Go.Proofs.YtcbobceggjndlaaGreatDoor
