/-
  The small machine: the reference's Points.
-/
import Derived.Test.YtbfljfjjnijigaaGreatDoorMc
set_option linter.unusedVariables false
set_option linter.unusedSimpArgs false
section
namespace Go.Proofs.YtbfljfjjnijigaaGreatDoor
open Go Go.RowKit
set_option maxRecDepth 100000
section
variable {α : Type} {g : α → List IV} {sz : Nat}
def OwnJ (g : α → List IV) (sz d k0 : Nat) (J : List IObj) (lv : IV) (xs : List α) : Prop := (xs = [] ∧ lv = .nilsl) ∨ ∃ b, xs ≠ [] ∧ lv = .slM d (k0 + b) 0 xs.length xs.length sz false ∧ J[b]? = some (.cells (xs.flatMap g))
theorem OwnJ.more {d k0 : Nat} {J : List IObj} {lv : IV} {xs : List α} (h : OwnJ g sz d k0 J lv xs) (r : List IObj) : OwnJ g sz d k0 (J ++ r) lv xs := by
  rcases h with h | ⟨b, hne, h1, h2⟩
  · exact .inl h
  · exact .inr ⟨b, hne, h1, by rw [List.getElem?_append_left (List.getElem?_eq_some_iff.1 h2).1]; exact h2⟩
def rowQ (hs : ∀ a, (g a).length = sz) (xs : List α) (hx : xs.length < 9223372036854775808) : SlOf sz g := match xs, hx with
  | [], _ => nilS _ _
  | x :: t, hx => mkRow hs (x :: t) (x :: t).length false rfl hx
theorem rowQ_l (hs : ∀ a, (g a).length = sz) (xs : List α) (hx : xs.length < 9223372036854775808) : (rowQ hs xs hx).l = xs := by cases xs <;> rfl
theorem pre_get {Pre L : List IObj} {b : Nat} : (Pre ++ L)[Pre.length + b]? = L[b]? := by
  rw [List.getElem?_append_right (by omega), Nat.add_sub_cancel_left]
theorem pre_set {Pre L : List IObj} {b : Nat} {v : IObj} : (Pre ++ L).set (Pre.length + b) v = Pre ++ L.set b v := by
  rw [List.set_append_right _ _ (by omega), Nat.add_sub_cancel_left]
theorem ownJ_fz (hs : ∀ a, (g a).length = sz) (hf : ∀ a, ∀ x ∈ g a, Fz 1 x) {d m : Nat} {Pre J : List IObj} {lv : IV} {xs : List α} (hm : 2 ≤ m) (hx : xs.length < 9223372036854775808) (h : OwnJ g sz d Pre.length J lv xs) : freeze m d (Pre ++ J) lv = some (rowQ hs xs hx).v := by
  rcases h with ⟨rfl, rfl⟩ | ⟨b, hne, rfl, h2⟩
  · exact fz_nilsl m (by omega) d _
  · cases xs with
    | nil => exact absurd rfl hne
    | cons x t => exact freeze_slM (k := 1) hf (by omega) rfl hs (by rw [pre_get]; exact h2)
theorem ownJ_app (hs : ∀ a, (g a).length = sz) {d n0 slot k : Nat} {out : Nat → List IObj} {Pre J R : List IObj} {lv : IV} {xs ys : List α} (h : OwnJ g sz d Pre.length J lv xs) (hy : ys.length ≠ 0) (hx : xs.length + ys.length ≤ 1073741824) (hk : n0 + slot = Pre.length + (J.length + k)) (hf : R[k]? = some .free)
    (hsc : (ys.flatMap g).all IV.scalar = true) :
    ∃ e lv' J2, appendI d n0 (look d out (Pre ++ (J ++ R))) (Pre ++ (J ++ R)) sz lv (ys.flatMap g) ys.length slot = some (e, lv', Pre ++ J2) ∧ OwnJ g sz d Pre.length J2 lv' (xs ++ ys) := by
  have hkl : k < R.length := (List.getElem?_eq_some_iff.1 hf).1
  have hget : (J ++ R)[J.length + k]? = some .free := by
    rw [List.getElem?_append_right (by omega), Nat.add_sub_cancel_left]
    exact hf
  have hlt : J.length + k < (J ++ R).length := by rw [List.length_append]; omega
  have hne : xs ++ ys ≠ [] := by
    intro he
    exact hy (by rw [(List.append_eq_nil_iff.1 he).2]; rfl)
  rcases h with ⟨rfl, rfl⟩ | ⟨b, _, rfl, h2⟩
  · rw [app_nil hy (by unfold bound; simp at hx; omega)]
    unfold mkAt
    rw [hk, pre_get, hget]
    simp only [lit_eq]
    rw [pre_set]
    refine ⟨_, _, _, rfl, .inr ⟨J.length + k, hne, by simp, ?_⟩⟩
    rw [List.getElem?_set_self hlt]
    rfl
  · have hb : b < J.length := (List.getElem?_eq_some_iff.1 h2).1
    have hb2 : (J ++ R)[b]? = some (.cells (xs.flatMap g)) := by rw [List.getElem?_append_left hb]; exact h2
    rw [app_kill hy hx (flat_len hs) hsc (by simp only [look, if_true, pre_get]; exact hb2)]
    unfold killAt
    rw [hk, pre_get, hget]
    simp only [lit_eq]
    rw [pre_set, pre_set]
    refine ⟨_, _, _, rfl, .inr ⟨J.length + k, hne, by simp, ?_⟩⟩
    rw [List.getElem?_set_self (by rw [List.length_set]; exact hlt)]
    simp
end
theorem flat_le {α β : Type} {g : α → List β} {c : Nat} : ∀ {l : List α}, (∀ x ∈ l, (g x).length ≤ c) → (l.flatMap g).length ≤ l.length * c
  | [], _ => by simp
  | x :: l, h => by
    rw [List.flatMap_cons, List.length_append, List.length_cons, Nat.succ_mul]
    have h1 := h x (List.mem_cons_self ..)
    have h2 := flat_le (l := l) fun y hy => h y (List.mem_cons_of_mem _ hy)
    omega
def nodeP (p : Pn) (k : Int) : List Pt := bif (nodeF p k).isSome then [(nodeD p k).at'] else []
def pathP (p : Pn) (k : Int) : List Pt := bif pathOk p k then pathL p k else []
def arcIn (f : Ft) (a : Ac) : Bool := (shapeI f.kind == 2 && f.parts.l.contains a.id) || (shapeI f.kind == 3 && (f.parts.l.contains a.l || f.parts.l.contains a.r))
def arcP (p : Pn) (f : Ft) (a : Ac) : List Pt := bif arcIn f a then pathP p a.id else []
def refPts (p : Pn) (f : Ft) : List Pt := bif shapeI f.kind == 1 then f.parts.l.flatMap (nodeP p) else bif decide (shapeI f.kind > 1) then p.as.l.flatMap (arcP p f) else []
theorem take_flat {α β : Type} {g : α → List β} {l : List α} {i : Nat} {x : α} (hx : l[i]? = some x) : (l.take (i + 1)).flatMap g = (l.take i).flatMap g ++ g x := by
  rw [List.take_add_one, hx, Option.toList_some, List.flatMap_append, List.flatMap_cons, List.flatMap_nil, List.append_nil]
theorem nodeP_le (p : Pn) (k : Int) : (nodeP p k).length ≤ 1 := by
  unfold nodeP
  cases (nodeF p k).isSome <;> simp
theorem pathP_le {p : Pn} (h : FewVia p) (k : Int) : (pathP p k).length ≤ 100002 := by
  unfold pathP
  cases pathOk p k
  · simp
  · have := fewD h k
    simp [pathL]
    omega
theorem arcP_le {p : Pn} (h : FewVia p) (f : Ft) (a : Ac) : (arcP p f a).length ≤ 100002 := by
  unfold arcP
  cases arcIn f a
  · simp
  · exact pathP_le h _
end Go.Proofs.YtbfljfjjnijigaaGreatDoor
end
section
namespace Go.Proofs.YtbfljfjjnijigaaGreatDoor
open Go Go.RowKit
set_option maxRecDepth 100000
set_option maxHeartbeats 1600000
theorem expand_t {t : List IV} {n : Nat} (h : t.length = n) : t = (List.range n).map (getK (.tuple []) t) := by
  apply List.ext_getElem?
  intro i
  rw [List.getElem?_map]
  by_cases hi : i < n
  · rw [List.getElem?_range hi, Option.map_some, getK_eq, List.getD_eq_getElem?_getD, List.getElem?_eq_getElem (by omega), Option.getD_some]
  · rw [List.getElem?_eq_none (by omega), List.getElem?_eq_none (by simp; omega), Option.map_none]
theorem zz0 : ((0 : Int) == 0) = true := by decide
theorem zz7 : ((7 : Int) == 0) = false := by decide
theorem lt0 {n : Nat} : decide ((0 : Int) < (n : Int)) = decide (0 < n) := by
  rw [Bool.eq_iff_iff]
  simp
section
variable {S : FuncId → List IV → Option IV}
theorem points_near (hS : NoS S) (s : Sv) (f : Ft) (h1 : (shapeI f.kind == 1) = true) (hpa : f.parts.l.length ≤ 1000) (hlx : (refPts s.pl f).length < 9223372036854775808) : Gives Ftab S 27 [.agg s.c, .agg f.c] (rowQ Pt.c_len (refPts s.pl f) hlx).v := by
  obtain ⟨N0, hN0⟩ := gives_rshape hS f.kind
  obtain ⟨N1, hN1⟩ := gives_unif (f := 49) (a := fun x : Int => [.agg s.pl.c, iv x]) (v := fun x => .tuple [.agg (nodeD s.pl x).c, .bool (nodeF s.pl x).isSome]) f.parts.l fun x _ => gives_rnode hS s.pl x
  have hre : refPts s.pl f = f.parts.l.flatMap (nodeP s.pl) := by simp [refPts, h1]
  have hg : decide (shapeI f.kind > 1) = false := by
    have : shapeI f.kind = 1 := by simpa using h1
    simp [this]
  refine gives_fr (i := i27) (hS _ _ (by decide) (by decide) (by decide) (by decide)) rfl rfl (N0 + N1 + f.parts.l.length + 8) fun m hm d out => ?_
  obtain ⟨k, rfl⟩ : ∃ k, m = k + 1 := ⟨m - 1, by omega⟩
  have c0 := fun d out ownV own i => hN0 (k + 1) (by omega) d out ownV own i
  simp only [iv_eq] at c0
  simp only [i27, Wall, e_nilchk, e_pick, e_box, e_bslice, e_load, e_store, e_eqb, e_eqp, e_eqs, e_eqagg, e_conv, e_faddr, e_field, e_extract, e_call, e_mx, mkAt, List.replicate, List.cons_append, List.nil_append, List.append_nil, List.all_cons, List.all_nil, Bool.and_self, Bool.and_true, Bool.true_and, if_true, List.length_nil, List.length_cons, Nat.zero_add, Nat.add_zero, Nat.reduceAdd, Nat.reduceMul, Nat.reduceLeDiff, Nat.le_refl, and_self, and_true, true_and, List.getElem?_cons_zero, List.getElem?_cons_succ, look, mkv, Option.map_some, Option.map_none, Option.bind_some, Bool.false_eq_true, if_false, List.map_cons, List.map_nil, binI, intBin, isShift, unI, reduceCtorEq, fillI, Nat.reduceEqDiff, Int.ofNat_lt, decide_true, decide_false, beq_iff_eq, cellV, List.append_assoc, List.length_append, Bool.not_true, Bool.not_false, Sv.c, Ft.c, c0]
  refine ex_rounds (fun j st => ∃ i J lv, j = f.parts.l.length - i ∧ i ≤ f.parts.l.length ∧ OwnJ Pt.c 2 d 2 J lv ((f.parts.l.take i).flatMap (nodeP s.pl)) ∧ st.t.length = 108 ∧ getK (.tuple []) st.t 0 = .agg s.c ∧ getK (.tuple []) st.t 1 = .agg f.c ∧ getK (.tuple []) st.t 2 = .ptrM d 0 0 ∧ getK (.tuple []) st.t 3 = .ptrM d 1 0 ∧ getK (.tuple []) st.t 4 = .nilsl ∧ getK (.tuple []) st.t 5 = lv ∧ getK (.tuple []) st.t 6 = iv (shapeI f.kind) ∧ getK (.tuple []) st.t 7 = iv i ∧ st.own = .cells [s.pl.ns.v, s.pl.as.v, s.pl.fs.v, s.ft.v] :: .cells [.int .i64 f.id, .int .i64 f.kind, .int .i64 f.cls, .str f.name.1, f.parts.v] :: J) f.parts.l.length (by omega) ⟨0, [.free], .nilsl, by omega, by omega, .inl ⟨rfl, rfl⟩, rfl, rfl, rfl, rfl, rfl, rfl, rfl, rfl, rfl, rfl⟩ ?_
  rintro j ⟨t, own⟩ K ⟨i, J, lv, rfl, hi, hO, hl, k0, k1, k2, k3, k4, k5, k6, k7, ho⟩ hn he hr
  dsimp only at hl k0 k1 k2 k3 k4 k5 k6 k7 ho
  have ht : t = [getK (.tuple []) t 0, getK (.tuple []) t 1, getK (.tuple []) t 2, getK (.tuple []) t 3, getK (.tuple []) t 4, getK (.tuple []) t 5, getK (.tuple []) t 6, getK (.tuple []) t 7, getK (.tuple []) t 8, getK (.tuple []) t 9, getK (.tuple []) t 10, getK (.tuple []) t 11, getK (.tuple []) t 12, getK (.tuple []) t 13, getK (.tuple []) t 14, getK (.tuple []) t 15, getK (.tuple []) t 16, getK (.tuple []) t 17, getK (.tuple []) t 18, getK (.tuple []) t 19, getK (.tuple []) t 20, getK (.tuple []) t 21, getK (.tuple []) t 22, getK (.tuple []) t 23, getK (.tuple []) t 24, getK (.tuple []) t 25, getK (.tuple []) t 26, getK (.tuple []) t 27, getK (.tuple []) t 28, getK (.tuple []) t 29, getK (.tuple []) t 30, getK (.tuple []) t 31, getK (.tuple []) t 32, getK (.tuple []) t 33, getK (.tuple []) t 34, getK (.tuple []) t 35, getK (.tuple []) t 36, getK (.tuple []) t 37, getK (.tuple []) t 38, getK (.tuple []) t 39, getK (.tuple []) t 40, getK (.tuple []) t 41, getK (.tuple []) t 42, getK (.tuple []) t 43, getK (.tuple []) t 44, getK (.tuple []) t 45, getK (.tuple []) t 46, getK (.tuple []) t 47, getK (.tuple []) t 48, getK (.tuple []) t 49, getK (.tuple []) t 50, getK (.tuple []) t 51, getK (.tuple []) t 52, getK (.tuple []) t 53, getK (.tuple []) t 54, getK (.tuple []) t 55, getK (.tuple []) t 56, getK (.tuple []) t 57, getK (.tuple []) t 58, getK (.tuple []) t 59, getK (.tuple []) t 60, getK (.tuple []) t 61, getK (.tuple []) t 62, getK (.tuple []) t 63, getK (.tuple []) t 64, getK (.tuple []) t 65, getK (.tuple []) t 66, getK (.tuple []) t 67, getK (.tuple []) t 68, getK (.tuple []) t 69, getK (.tuple []) t 70, getK (.tuple []) t 71, getK (.tuple []) t 72, getK (.tuple []) t 73, getK (.tuple []) t 74, getK (.tuple []) t 75, getK (.tuple []) t 76, getK (.tuple []) t 77, getK (.tuple []) t 78, getK (.tuple []) t 79, getK (.tuple []) t 80, getK (.tuple []) t 81, getK (.tuple []) t 82, getK (.tuple []) t 83, getK (.tuple []) t 84, getK (.tuple []) t 85, getK (.tuple []) t 86, getK (.tuple []) t 87, getK (.tuple []) t 88, getK (.tuple []) t 89, getK (.tuple []) t 90, getK (.tuple []) t 91, getK (.tuple []) t 92, getK (.tuple []) t 93, getK (.tuple []) t 94, getK (.tuple []) t 95, getK (.tuple []) t 96, getK (.tuple []) t 97, getK (.tuple []) t 98, getK (.tuple []) t 99, getK (.tuple []) t 100, getK (.tuple []) t 101, getK (.tuple []) t 102, getK (.tuple []) t 103, getK (.tuple []) t 104, getK (.tuple []) t 105, getK (.tuple []) t 106, getK (.tuple []) t 107] := expand_t hl
  simp only [k0, k1, k2, k3, k4, k5, k6, k7] at ht
  generalize getK (.tuple []) t = r at ht
  subst ht
  subst ho
  by_cases h : i < f.parts.l.length
  · have hx : f.parts.l[i]? = some f.parts.l[i] := List.getElem?_eq_getElem h
    generalize f.parts.l[i] = x at hx
    have hmem := List.mem_of_getElem? hx
    have hrd : rdN (f.parts.l.flatMap intc) (i * 1) 1 = some [iv x] := rdN_flat intc_len 0 1 hx (by omega)
    have hw : wrapI .i64 ((i : Int) + 1) = ((i + 1 : Nat) : Int) := wrap_succ (by have := f.parts.few; omega)
    have c1 := fun d out ownV own i => hN1 x hmem (k + 1) (by omega) d out ownV own i
    simp only [iv_eq, Pn.c, Nd.c] at c1
    have hnx := take_flat (g := nodeP s.pl) hx
    have hle : ((f.parts.l.take i).flatMap (nodeP s.pl)).length ≤ 1000 * 1 := by
      refine Nat.le_trans (flat_le fun a _ => nodeP_le s.pl a) (Nat.mul_le_mul_right _ ?_)
      rw [List.length_take]
      omega
    cases hb : (nodeF s.pl x).isSome
    · simp only [nodeP, hb, cond_false, List.append_nil] at hnx
      simp only [hb] at c1
      simp only [Wall, e_nilchk, e_pick, e_box, e_bslice, e_load, e_store, e_eqb, e_eqp, e_eqs, e_eqagg, e_conv, e_faddr, e_field, e_extract, e_call, e_mx, mkAt, List.replicate, List.cons_append, List.nil_append, List.append_nil, List.all_cons, List.all_nil, Bool.and_self, Bool.and_true, Bool.true_and, if_true, List.length_nil, List.length_cons, Nat.zero_add, Nat.add_zero, Nat.reduceAdd, Nat.reduceMul, Nat.reduceLeDiff, Nat.le_refl, and_self, and_true, true_and, List.getElem?_cons_zero, List.getElem?_cons_succ, look, mkv, Option.map_some, Option.map_none, Option.bind_some, Bool.false_eq_true, if_false, List.map_cons, List.map_nil, binI, intBin, isShift, unI, reduceCtorEq, fillI, Nat.reduceEqDiff, Int.ofNat_lt, decide_true, decide_false, beq_iff_eq, cellV, List.append_assoc, List.length_append, Bool.not_true, Bool.not_false, h, h1, iaddrV_sl f.parts h, hrd, c1]
      refine ⟨by simp [comm], ?_⟩
      simp only [Wall, e_nilchk, e_pick, e_box, e_bslice, e_load, e_store, e_eqb, e_eqp, e_eqs, e_eqagg, e_conv, e_faddr, e_field, e_extract, e_call, e_mx, mkAt, List.replicate, List.cons_append, List.nil_append, List.append_nil, List.all_cons, List.all_nil, Bool.and_self, Bool.and_true, Bool.true_and, if_true, List.length_nil, List.length_cons, Nat.zero_add, Nat.add_zero, Nat.reduceAdd, Nat.reduceMul, Nat.reduceLeDiff, Nat.le_refl, and_self, and_true, true_and, List.getElem?_cons_zero, List.getElem?_cons_succ, look, mkv, Option.map_some, Option.map_none, Option.bind_some, Bool.false_eq_true, if_false, List.map_cons, List.map_nil, binI, intBin, isShift, unI, reduceCtorEq, fillI, Nat.reduceEqDiff, Int.ofNat_lt, decide_true, decide_false, beq_iff_eq, cellV, List.append_assoc, List.length_append, Bool.not_true, Bool.not_false, hw]
      exact hn _ (f.parts.l.length - (i + 1)) (by omega) ⟨i + 1, _, lv, rfl, by omega, by rw [hnx]; exact hO.more _, rfl, rfl, rfl, rfl, rfl, rfl, rfl, rfl, rfl, rfl⟩
    · simp only [nodeP, hb, cond_true] at hnx
      simp only [hb] at c1
      obtain ⟨e, lv', J2, happ, hO2⟩ := ownJ_app (Pre := [.cells [s.pl.ns.v, s.pl.as.v, s.pl.fs.v, s.ft.v], .cells [.int .i64 f.id, .int .i64 f.kind, .int .i64 f.cls, .str f.name.1, f.parts.v]]) (n0 := J.length + 2 + 1 + 1) (slot := 0) (k := 2) (out := out) (R := [.free, .cells [.int .i64 (nodeD s.pl x).id, .int .i64 (nodeD s.pl x).at'.x, .int .i64 (nodeD s.pl x).at'.y], .free]) Pt.c_len hO (ys := [(nodeD s.pl x).at']) (by simp) (by simp only [List.length_cons, List.length_nil]; omega) (by simp only [List.length_cons, List.length_nil]; omega) rfl pts_scal
      simp only [List.cons_append, List.nil_append, List.flatMap_cons, List.flatMap_nil, Pt.c, iv_eq, List.length_cons, List.length_nil, List.append_nil, Nat.zero_add] at happ
      simp only [Wall, e_nilchk, e_pick, e_box, e_bslice, e_load, e_store, e_eqb, e_eqp, e_eqs, e_eqagg, e_conv, e_faddr, e_field, e_extract, e_call, e_mx, mkAt, List.replicate, List.cons_append, List.nil_append, List.append_nil, List.all_cons, List.all_nil, Bool.and_self, Bool.and_true, Bool.true_and, if_true, List.length_nil, List.length_cons, Nat.zero_add, Nat.add_zero, Nat.reduceAdd, Nat.reduceMul, Nat.reduceLeDiff, Nat.le_refl, and_self, and_true, true_and, List.getElem?_cons_zero, List.getElem?_cons_succ, look, mkv, Option.map_some, Option.map_none, Option.bind_some, Bool.false_eq_true, if_false, List.map_cons, List.map_nil, binI, intBin, isShift, unI, reduceCtorEq, fillI, Nat.reduceEqDiff, Int.ofNat_lt, decide_true, decide_false, beq_iff_eq, cellV, List.append_assoc, List.length_append, Bool.not_true, Bool.not_false, h, h1, iaddrV_sl f.parts h, hrd, c1]
      refine ⟨by simp [comm], ?_⟩
      simp only [Wall, e_nilchk, e_pick, e_box, e_bslice, e_load, e_store, e_eqb, e_eqp, e_eqs, e_eqagg, e_conv, e_faddr, e_field, e_extract, e_call, e_mx, mkAt, List.replicate, List.cons_append, List.nil_append, List.append_nil, List.all_cons, List.all_nil, Bool.and_self, Bool.and_true, Bool.true_and, if_true, List.length_nil, List.length_cons, Nat.zero_add, Nat.add_zero, Nat.reduceAdd, Nat.reduceMul, Nat.reduceLeDiff, Nat.le_refl, and_self, and_true, true_and, List.getElem?_cons_zero, List.getElem?_cons_succ, look, mkv, Option.map_some, Option.map_none, Option.bind_some, Bool.false_eq_true, if_false, List.map_cons, List.map_nil, binI, intBin, isShift, unI, reduceCtorEq, fillI, Nat.reduceEqDiff, Int.ofNat_lt, decide_true, decide_false, beq_iff_eq, cellV, List.append_assoc, List.length_append, Bool.not_true, Bool.not_false, hw, rep, ev_append, app_src, app_ok, cellsI_pt, happ]
      exact hn _ (f.parts.l.length - (i + 1)) (by omega) ⟨i + 1, J2, lv', rfl, by omega, by rw [hnx]; exact hO2, rfl, rfl, rfl, rfl, rfl, rfl, rfl, rfl, rfl, rfl⟩
  · simp only [Wall, e_nilchk, e_pick, e_box, e_bslice, e_load, e_store, e_eqb, e_eqp, e_eqs, e_eqagg, e_conv, e_faddr, e_field, e_extract, e_call, e_mx, mkAt, List.replicate, List.cons_append, List.nil_append, List.append_nil, List.all_cons, List.all_nil, Bool.and_self, Bool.and_true, Bool.true_and, if_true, List.length_nil, List.length_cons, Nat.zero_add, Nat.add_zero, Nat.reduceAdd, Nat.reduceMul, Nat.reduceLeDiff, Nat.le_refl, and_self, and_true, true_and, List.getElem?_cons_zero, List.getElem?_cons_succ, look, mkv, Option.map_some, Option.map_none, Option.bind_some, Bool.false_eq_true, if_false, List.map_cons, List.map_nil, binI, intBin, isShift, unI, reduceCtorEq, fillI, Nat.reduceEqDiff, Int.ofNat_lt, decide_true, decide_false, beq_iff_eq, cellV, List.append_assoc, List.length_append, Bool.not_true, Bool.not_false, h]
    refine he _ _ ?_
    rw [List.take_of_length_le (by omega), ← hre] at hO
    cases hlt : decide (0 < s.pl.as.l.length)
    all_goals
      simp only [Wall, e_nilchk, e_pick, e_box, e_bslice, e_load, e_store, e_eqb, e_eqp, e_eqs, e_eqagg, e_conv, e_faddr, e_field, e_extract, e_call, e_mx, mkAt, List.replicate, List.cons_append, List.nil_append, List.append_nil, List.all_cons, List.all_nil, Bool.and_self, Bool.and_true, Bool.true_and, if_true, List.length_nil, List.length_cons, Nat.zero_add, Nat.add_zero, Nat.reduceAdd, Nat.reduceMul, Nat.reduceLeDiff, Nat.le_refl, and_self, and_true, true_and, List.getElem?_cons_zero, List.getElem?_cons_succ, look, mkv, Option.map_some, Option.map_none, Option.bind_some, Bool.false_eq_true, if_false, List.map_cons, List.map_nil, binI, intBin, isShift, unI, reduceCtorEq, fillI, Nat.reduceEqDiff, Int.ofNat_lt, decide_true, decide_false, beq_iff_eq, cellV, List.append_assoc, List.length_append, Bool.not_true, Bool.not_false, Ex_loop, Lp_succ, lt0, hlt, hg]
      exact ⟨_, rfl, ownJ_fz (Pre := [_, _]) Pt.c_len ptc_fz (by omega) hlx hO⟩
theorem points_far (hS : NoS S) (s : Sv) (f : Ft) (h1 : (shapeI f.kind == 1) = false) (hg : decide (shapeI f.kind > 1) = true) (hv : FewVia s.pl) (has : s.pl.as.l.length ≤ 1000) (hlx : (refPts s.pl f).length < 9223372036854775808) : Gives Ftab S 27 [.agg s.c, .agg f.c] (rowQ Pt.c_len (refPts s.pl f) hlx).v := by
  obtain ⟨N0, hN0⟩ := gives_rshape hS f.kind
  obtain ⟨N1, hN1⟩ := gives_unif (f := 28) (a := fun x : Ac => [f.parts.v, iv x.id]) (v := fun x => .bool (f.parts.l.contains x.id)) s.pl.as.l fun x _ => gives_has hS f.parts x.id
  obtain ⟨N2, hN2⟩ := gives_unif (f := 28) (a := fun x : Ac => [f.parts.v, iv x.l]) (v := fun x => .bool (f.parts.l.contains x.l)) s.pl.as.l fun x _ => gives_has hS f.parts x.l
  obtain ⟨N3, hN3⟩ := gives_unif (f := 28) (a := fun x : Ac => [f.parts.v, iv x.r]) (v := fun x => .bool (f.parts.l.contains x.r)) s.pl.as.l fun x _ => gives_has hS f.parts x.r
  let rq : Ac → SlOf 2 Pt.c := fun x => Classical.choose (gives_rpath hS s.pl x.id hv)
  have hrq : ∀ x, (pathOk s.pl x.id = true → (rq x).l = pathL s.pl x.id) ∧ Gives Ftab S 50 [.agg s.pl.c, iv x.id] (.tuple [(rq x).v, iv (bif pathOk s.pl x.id then 0 else 7)]) := fun x => Classical.choose_spec (gives_rpath hS s.pl x.id hv)
  generalize rq = rq at hrq
  obtain ⟨N4, hN4⟩ := gives_unif (f := 50) (a := fun x : Ac => [.agg s.pl.c, iv x.id]) (v := fun x => .tuple [(rq x).v, iv (bif pathOk s.pl x.id then 0 else 7)]) s.pl.as.l fun x _ => (hrq x).2
  have hre : refPts s.pl f = s.pl.as.l.flatMap (arcP s.pl f) := by simp only [refPts, h1, hg, cond_false, cond_true]
  refine gives_fr (i := i27) (hS _ _ (by decide) (by decide) (by decide) (by decide)) rfl rfl (N0 + N1 + N2 + N3 + N4 + s.pl.as.l.length + 8) fun m hm d out => ?_
  obtain ⟨k, rfl⟩ : ∃ k, m = k + 1 := ⟨m - 1, by omega⟩
  have c0 := fun d out ownV own i => hN0 (k + 1) (by omega) d out ownV own i
  simp only [iv_eq] at c0
  have hsh : shapeI f.kind = 2 ∨ shapeI f.kind = 3 := by
    have := shapeI_range f.kind
    have h2 : shapeI f.kind > 1 := by simpa using hg
    omega
  have start : ∀ (hlt : Bool), decide (0 < f.parts.l.length) = hlt → Ex (callN Ftab S (k + 1)) d out (k + 1) i27.body (FinF d out i27.res (k + 1) (rowQ Pt.c_len (refPts s.pl f) hlx).v) ⟨[.agg s.c, .agg f.c] ++ List.replicate (i27.ntmps - 2) (.tuple []), []⟩ := by
    intro hlt hlt'
    cases hlt
    all_goals
      simp only [i27, Wall, e_nilchk, e_pick, e_box, e_bslice, e_load, e_store, e_eqb, e_eqp, e_eqs, e_eqagg, e_conv, e_faddr, e_field, e_extract, e_call, e_mx, mkAt, List.replicate, List.cons_append, List.nil_append, List.append_nil, List.all_cons, List.all_nil, Bool.and_self, Bool.and_true, Bool.true_and, if_true, List.length_nil, List.length_cons, Nat.zero_add, Nat.add_zero, Nat.reduceAdd, Nat.reduceMul, Nat.reduceLeDiff, Nat.le_refl, and_self, and_true, true_and, List.getElem?_cons_zero, List.getElem?_cons_succ, look, mkv, Option.map_some, Option.map_none, Option.bind_some, Bool.false_eq_true, if_false, List.map_cons, List.map_nil, binI, intBin, isShift, unI, reduceCtorEq, fillI, Nat.reduceEqDiff, Int.ofNat_lt, decide_true, decide_false, beq_iff_eq, cellV, List.append_assoc, List.length_append, Bool.not_true, Bool.not_false, Sv.c, Ft.c, c0, Nat.reduceSub]
      rw [Ex_loop, Lp_succ]
      simp only [Wall, e_nilchk, e_pick, e_box, e_bslice, e_load, e_store, e_eqb, e_eqp, e_eqs, e_eqagg, e_conv, e_faddr, e_field, e_extract, e_call, e_mx, mkAt, List.replicate, List.cons_append, List.nil_append, List.append_nil, List.all_cons, List.all_nil, Bool.and_self, Bool.and_true, Bool.true_and, if_true, List.length_nil, List.length_cons, Nat.zero_add, Nat.add_zero, Nat.reduceAdd, Nat.reduceMul, Nat.reduceLeDiff, Nat.le_refl, and_self, and_true, true_and, List.getElem?_cons_zero, List.getElem?_cons_succ, look, mkv, Option.map_some, Option.map_none, Option.bind_some, Bool.false_eq_true, if_false, List.map_cons, List.map_nil, binI, intBin, isShift, unI, reduceCtorEq, fillI, Nat.reduceEqDiff, Int.ofNat_lt, decide_true, decide_false, beq_iff_eq, cellV, List.append_assoc, List.length_append, Bool.not_true, Bool.not_false, lt0, hlt', h1]
      refine ex_rounds (fun j st => ∃ i J lv, j = s.pl.as.l.length - i ∧ i ≤ s.pl.as.l.length ∧ OwnJ Pt.c 2 d 2 J lv ((s.pl.as.l.take i).flatMap (arcP s.pl f)) ∧ st.t.length = 108 ∧ getK (.tuple []) st.t 0 = .agg s.c ∧ getK (.tuple []) st.t 1 = .agg f.c ∧ getK (.tuple []) st.t 2 = .ptrM d 0 0 ∧ getK (.tuple []) st.t 3 = .ptrM d 1 0 ∧ getK (.tuple []) st.t 4 = .nilsl ∧ getK (.tuple []) st.t 5 = lv ∧ getK (.tuple []) st.t 6 = iv (shapeI f.kind) ∧ getK (.tuple []) st.t 10 = iv i ∧ st.own = .cells [s.pl.ns.v, s.pl.as.v, s.pl.fs.v, s.ft.v] :: .cells [.int .i64 f.id, .int .i64 f.kind, .int .i64 f.cls, .str f.name.1, f.parts.v] :: J) s.pl.as.l.length (by omega) ⟨0, [.free], .nilsl, by omega, by omega, .inl ⟨rfl, rfl⟩, rfl, rfl, rfl, rfl, rfl, rfl, rfl, rfl, rfl, rfl⟩ ?_
      rintro j ⟨t, own⟩ K ⟨i, J, lv, rfl, hi, hO, hl, k0, k1, k2, k3, k4, k5, k6, k10, ho⟩ hn he hr
      dsimp only at hl k0 k1 k2 k3 k4 k5 k6 k10 ho
      have ht : t = [getK (.tuple []) t 0, getK (.tuple []) t 1, getK (.tuple []) t 2, getK (.tuple []) t 3, getK (.tuple []) t 4, getK (.tuple []) t 5, getK (.tuple []) t 6, getK (.tuple []) t 7, getK (.tuple []) t 8, getK (.tuple []) t 9, getK (.tuple []) t 10, getK (.tuple []) t 11, getK (.tuple []) t 12, getK (.tuple []) t 13, getK (.tuple []) t 14, getK (.tuple []) t 15, getK (.tuple []) t 16, getK (.tuple []) t 17, getK (.tuple []) t 18, getK (.tuple []) t 19, getK (.tuple []) t 20, getK (.tuple []) t 21, getK (.tuple []) t 22, getK (.tuple []) t 23, getK (.tuple []) t 24, getK (.tuple []) t 25, getK (.tuple []) t 26, getK (.tuple []) t 27, getK (.tuple []) t 28, getK (.tuple []) t 29, getK (.tuple []) t 30, getK (.tuple []) t 31, getK (.tuple []) t 32, getK (.tuple []) t 33, getK (.tuple []) t 34, getK (.tuple []) t 35, getK (.tuple []) t 36, getK (.tuple []) t 37, getK (.tuple []) t 38, getK (.tuple []) t 39, getK (.tuple []) t 40, getK (.tuple []) t 41, getK (.tuple []) t 42, getK (.tuple []) t 43, getK (.tuple []) t 44, getK (.tuple []) t 45, getK (.tuple []) t 46, getK (.tuple []) t 47, getK (.tuple []) t 48, getK (.tuple []) t 49, getK (.tuple []) t 50, getK (.tuple []) t 51, getK (.tuple []) t 52, getK (.tuple []) t 53, getK (.tuple []) t 54, getK (.tuple []) t 55, getK (.tuple []) t 56, getK (.tuple []) t 57, getK (.tuple []) t 58, getK (.tuple []) t 59, getK (.tuple []) t 60, getK (.tuple []) t 61, getK (.tuple []) t 62, getK (.tuple []) t 63, getK (.tuple []) t 64, getK (.tuple []) t 65, getK (.tuple []) t 66, getK (.tuple []) t 67, getK (.tuple []) t 68, getK (.tuple []) t 69, getK (.tuple []) t 70, getK (.tuple []) t 71, getK (.tuple []) t 72, getK (.tuple []) t 73, getK (.tuple []) t 74, getK (.tuple []) t 75, getK (.tuple []) t 76, getK (.tuple []) t 77, getK (.tuple []) t 78, getK (.tuple []) t 79, getK (.tuple []) t 80, getK (.tuple []) t 81, getK (.tuple []) t 82, getK (.tuple []) t 83, getK (.tuple []) t 84, getK (.tuple []) t 85, getK (.tuple []) t 86, getK (.tuple []) t 87, getK (.tuple []) t 88, getK (.tuple []) t 89, getK (.tuple []) t 90, getK (.tuple []) t 91, getK (.tuple []) t 92, getK (.tuple []) t 93, getK (.tuple []) t 94, getK (.tuple []) t 95, getK (.tuple []) t 96, getK (.tuple []) t 97, getK (.tuple []) t 98, getK (.tuple []) t 99, getK (.tuple []) t 100, getK (.tuple []) t 101, getK (.tuple []) t 102, getK (.tuple []) t 103, getK (.tuple []) t 104, getK (.tuple []) t 105, getK (.tuple []) t 106, getK (.tuple []) t 107] := expand_t hl
      simp only [k0, k1, k2, k3, k4, k5, k6, k10] at ht
      generalize getK (.tuple []) t = r at ht
      subst ht
      subst ho
      by_cases h : i < s.pl.as.l.length
      · have hx : s.pl.as.l[i]? = some s.pl.as.l[i] := List.getElem?_eq_getElem h
        generalize s.pl.as.l[i] = x at hx
        have hmem := List.mem_of_getElem? hx
        have hrd : rdN (s.pl.as.l.flatMap Ac.c) (i * 6) 6 = some x.c := (rdN_flat Ac.c_len 0 6 hx (by omega)).trans rfl
        have hw : wrapI .i64 ((i : Int) + 1) = ((i + 1 : Nat) : Int) := wrap_succ (by have := s.pl.as.few; omega)
        have c1 := fun d out ownV own i => hN1 x hmem (k + 1) (by omega) d out ownV own i
        have c2 := fun d out ownV own i => hN2 x hmem (k + 1) (by omega) d out ownV own i
        have c3 := fun d out ownV own i => hN3 x hmem (k + 1) (by omega) d out ownV own i
        have c4 := fun d out ownV own i => hN4 x hmem (k + 1) (by omega) d out ownV own i
        simp only [iv_eq, Pn.c] at c1 c2 c3 c4
        have hql := (hrq x).1
        have hnx := take_flat (g := arcP s.pl f) hx
        have hle : ((s.pl.as.l.take i).flatMap (arcP s.pl f)).length ≤ 1000 * 100002 := by
          refine Nat.le_trans (flat_le fun a _ => arcP_le hv f a) (Nat.mul_le_mul_right _ ?_)
          rw [List.length_take]
          omega
        have hple := pathP_le hv x.id
        have hn2 : ∀ lv2 J2, OwnJ Pt.c 2 d 2 J2 lv2 ((s.pl.as.l.take i).flatMap (arcP s.pl f) ++ arcP s.pl f x) → ∀ t own, t.length = 108 → getK (.tuple []) t 0 = .agg s.c → getK (.tuple []) t 1 = .agg f.c → getK (.tuple []) t 2 = .ptrM d 0 0 → getK (.tuple []) t 3 = .ptrM d 1 0 → getK (.tuple []) t 4 = .nilsl → getK (.tuple []) t 5 = lv2 → getK (.tuple []) t 6 = iv (shapeI f.kind) → getK (.tuple []) t 10 = iv (i + 1 : Nat) → own = .cells [s.pl.ns.v, s.pl.as.v, s.pl.fs.v, s.ft.v] :: .cells [.int .i64 f.id, .int .i64 f.kind, .int .i64 f.cls, .str f.name.1, f.parts.v] :: J2 → K .normal ⟨t, own⟩ := fun lv2 J2 hO2 t own e1 q0 q1 q2 q3 q4 q5 q6 q10 e3 => hn _ (s.pl.as.l.length - (i + 1)) (by omega) ⟨i + 1, J2, lv2, rfl, by omega, by rw [hnx]; exact hO2, e1, q0, q1, q2, q3, q4, q5, q6, q10, e3⟩
        have hpl : pathOk s.pl x.id = true → (pathL s.pl x.id).length ≤ 100002 := fun hp => by simpa [pathP, hp] using hple
        have hap := fun (hp : pathOk s.pl x.id = true) => ownJ_app (Pre := [.cells [s.pl.ns.v, s.pl.as.v, s.pl.fs.v, s.ft.v], .cells [.int .i64 f.id, .int .i64 f.kind, .int .i64 f.cls, .str f.name.1, f.parts.v]]) (n0 := J.length + 5 + 1 + 1) (slot := 0) (k := 5) (out := out) (R := [.cells [.int .i64 x.id, .int .i64 x.fr, .int .i64 x.to, x.via.v, .int .i64 x.l, .int .i64 x.r], .free, .free, .free, .free, .free]) Pt.c_len hO (ys := pathL s.pl x.id) (by simp [pathL]) (by have h9 := hpl hp; omega) (by simp only [List.length_cons, List.length_nil]; omega) rfl pts_scal
        simp only [List.cons_append, List.nil_append] at hap
        rcases hsh with hs2 | hs3
        · have b2 : (shapeI f.kind == 2) = true := by simp [hs2]
          have b3 : (shapeI f.kind == 3) = false := by simp [hs2]
          cases ba : f.parts.l.contains x.id
          · -- not a part
            have hz : arcP s.pl f x = [] := by simp only [arcP, arcIn, b2, b3, ba, Bool.and_false, Bool.and_true, Bool.true_and, Bool.false_and, Bool.and_self, Bool.or_false, Bool.or_true, Bool.true_or, Bool.false_or, Bool.or_self, cond_false, cond_true]
            simp only [Wall, e_nilchk, e_pick, e_box, e_bslice, e_load, e_store, e_eqb, e_eqp, e_eqs, e_eqagg, e_conv, e_faddr, e_field, e_extract, e_call, e_mx, mkAt, List.replicate, List.cons_append, List.nil_append, List.append_nil, List.all_cons, List.all_nil, Bool.and_self, Bool.and_true, Bool.true_and, if_true, List.length_nil, List.length_cons, Nat.zero_add, Nat.add_zero, Nat.reduceAdd, Nat.reduceMul, Nat.reduceLeDiff, Nat.le_refl, and_self, and_true, true_and, List.getElem?_cons_zero, List.getElem?_cons_succ, look, mkv, Option.map_some, Option.map_none, Option.bind_some, Bool.false_eq_true, if_false, List.map_cons, List.map_nil, binI, intBin, isShift, unI, reduceCtorEq, fillI, Nat.reduceEqDiff, Int.ofNat_lt, decide_true, decide_false, beq_iff_eq, cellV, List.append_assoc, List.length_append, Bool.not_true, Bool.not_false, h, hg, iaddrV_sl s.pl.as h, hrd, Ac.c, c1, c2, c3, c4, b2, b3, ba, hw]
            exact hn2 lv _ (by rw [hz, List.append_nil]; exact hO.more _) _ _ rfl rfl rfl rfl rfl rfl rfl rfl rfl rfl
          · -- a part
            have hin : arcIn f x = true := by simp only [arcIn, b2, b3, ba, Bool.and_false, Bool.and_true, Bool.true_and, Bool.false_and, Bool.and_self, Bool.or_false, Bool.or_true, Bool.true_or, Bool.false_or, Bool.or_self, cond_false, cond_true]
            cases hp : pathOk s.pl x.id
            · have hz : arcP s.pl f x = [] := by simp only [arcP, pathP, hin, hp, Bool.and_false, Bool.and_true, Bool.true_and, Bool.false_and, Bool.and_self, Bool.or_false, Bool.or_true, Bool.true_or, Bool.false_or, Bool.or_self, cond_false, cond_true]
              simp only [hp, cond_false] at c4
              simp only [Wall, e_nilchk, e_pick, e_box, e_bslice, e_load, e_store, e_eqb, e_eqp, e_eqs, e_eqagg, e_conv, e_faddr, e_field, e_extract, e_call, e_mx, mkAt, List.replicate, List.cons_append, List.nil_append, List.append_nil, List.all_cons, List.all_nil, Bool.and_self, Bool.and_true, Bool.true_and, if_true, List.length_nil, List.length_cons, Nat.zero_add, Nat.add_zero, Nat.reduceAdd, Nat.reduceMul, Nat.reduceLeDiff, Nat.le_refl, and_self, and_true, true_and, List.getElem?_cons_zero, List.getElem?_cons_succ, look, mkv, Option.map_some, Option.map_none, Option.bind_some, Bool.false_eq_true, if_false, List.map_cons, List.map_nil, binI, intBin, isShift, unI, reduceCtorEq, fillI, Nat.reduceEqDiff, Int.ofNat_lt, decide_true, decide_false, beq_iff_eq, cellV, List.append_assoc, List.length_append, Bool.not_true, Bool.not_false, h, hg, iaddrV_sl s.pl.as h, hrd, Ac.c, c1, c2, c3, c4, b2, b3, ba, zz7, hw]
              exact hn2 lv _ (by rw [hz, List.append_nil]; exact hO.more _) _ _ rfl rfl rfl rfl rfl rfl rfl rfl rfl rfl
            · have hz : arcP s.pl f x = pathL s.pl x.id := by simp only [arcP, pathP, hin, hp, Bool.and_false, Bool.and_true, Bool.true_and, Bool.false_and, Bool.and_self, Bool.or_false, Bool.or_true, Bool.true_or, Bool.false_or, Bool.or_self, cond_false, cond_true]
              obtain ⟨e, lv2, J2, happ, hO2⟩ := hap hp
              simp only [hp, cond_true] at c4
              simp only [Wall, e_nilchk, e_pick, e_box, e_bslice, e_load, e_store, e_eqb, e_eqp, e_eqs, e_eqagg, e_conv, e_faddr, e_field, e_extract, e_call, e_mx, mkAt, List.replicate, List.cons_append, List.nil_append, List.append_nil, List.all_cons, List.all_nil, Bool.and_self, Bool.and_true, Bool.true_and, if_true, List.length_nil, List.length_cons, Nat.zero_add, Nat.add_zero, Nat.reduceAdd, Nat.reduceMul, Nat.reduceLeDiff, Nat.le_refl, and_self, and_true, true_and, List.getElem?_cons_zero, List.getElem?_cons_succ, look, mkv, Option.map_some, Option.map_none, Option.bind_some, Bool.false_eq_true, if_false, List.map_cons, List.map_nil, binI, intBin, isShift, unI, reduceCtorEq, fillI, Nat.reduceEqDiff, Int.ofNat_lt, decide_true, decide_false, beq_iff_eq, cellV, List.append_assoc, List.length_append, Bool.not_true, Bool.not_false, h, hg, iaddrV_sl s.pl.as h, hrd, Ac.c, c1, c2, c3, c4, b2, b3, ba, zz0, hw, ev_append, app_src, app_ok, cellsI_sl, hql hp, happ]
              exact hn2 lv2 J2 (by rw [hz]; exact hO2) _ _ rfl rfl rfl rfl rfl rfl rfl rfl rfl rfl
        · have b2 : (shapeI f.kind == 2) = false := by simp [hs3]
          have b3 : (shapeI f.kind == 3) = true := by simp [hs3]
          cases bl : f.parts.l.contains x.l
          · cases br : f.parts.l.contains x.r
            · -- neither side
              have hz : arcP s.pl f x = [] := by simp only [arcP, arcIn, b2, b3, bl, br, Bool.and_false, Bool.and_true, Bool.true_and, Bool.false_and, Bool.and_self, Bool.or_false, Bool.or_true, Bool.true_or, Bool.false_or, Bool.or_self, cond_false, cond_true]
              simp only [Wall, e_nilchk, e_pick, e_box, e_bslice, e_load, e_store, e_eqb, e_eqp, e_eqs, e_eqagg, e_conv, e_faddr, e_field, e_extract, e_call, e_mx, mkAt, List.replicate, List.cons_append, List.nil_append, List.append_nil, List.all_cons, List.all_nil, Bool.and_self, Bool.and_true, Bool.true_and, if_true, List.length_nil, List.length_cons, Nat.zero_add, Nat.add_zero, Nat.reduceAdd, Nat.reduceMul, Nat.reduceLeDiff, Nat.le_refl, and_self, and_true, true_and, List.getElem?_cons_zero, List.getElem?_cons_succ, look, mkv, Option.map_some, Option.map_none, Option.bind_some, Bool.false_eq_true, if_false, List.map_cons, List.map_nil, binI, intBin, isShift, unI, reduceCtorEq, fillI, Nat.reduceEqDiff, Int.ofNat_lt, decide_true, decide_false, beq_iff_eq, cellV, List.append_assoc, List.length_append, Bool.not_true, Bool.not_false, h, hg, iaddrV_sl s.pl.as h, hrd, Ac.c, c1, c2, c3, c4, b2, b3, bl, br, hw]
              exact hn2 lv _ (by rw [hz, List.append_nil]; exact hO.more _) _ _ rfl rfl rfl rfl rfl rfl rfl rfl rfl rfl
            · -- the right side
              have hin : arcIn f x = true := by simp only [arcIn, b2, b3, bl, br, Bool.and_false, Bool.and_true, Bool.true_and, Bool.false_and, Bool.and_self, Bool.or_false, Bool.or_true, Bool.true_or, Bool.false_or, Bool.or_self, cond_false, cond_true]
              cases hp : pathOk s.pl x.id
              · have hz : arcP s.pl f x = [] := by simp only [arcP, pathP, hin, hp, Bool.and_false, Bool.and_true, Bool.true_and, Bool.false_and, Bool.and_self, Bool.or_false, Bool.or_true, Bool.true_or, Bool.false_or, Bool.or_self, cond_false, cond_true]
                simp only [hp, cond_false] at c4
                simp only [Wall, e_nilchk, e_pick, e_box, e_bslice, e_load, e_store, e_eqb, e_eqp, e_eqs, e_eqagg, e_conv, e_faddr, e_field, e_extract, e_call, e_mx, mkAt, List.replicate, List.cons_append, List.nil_append, List.append_nil, List.all_cons, List.all_nil, Bool.and_self, Bool.and_true, Bool.true_and, if_true, List.length_nil, List.length_cons, Nat.zero_add, Nat.add_zero, Nat.reduceAdd, Nat.reduceMul, Nat.reduceLeDiff, Nat.le_refl, and_self, and_true, true_and, List.getElem?_cons_zero, List.getElem?_cons_succ, look, mkv, Option.map_some, Option.map_none, Option.bind_some, Bool.false_eq_true, if_false, List.map_cons, List.map_nil, binI, intBin, isShift, unI, reduceCtorEq, fillI, Nat.reduceEqDiff, Int.ofNat_lt, decide_true, decide_false, beq_iff_eq, cellV, List.append_assoc, List.length_append, Bool.not_true, Bool.not_false, h, hg, iaddrV_sl s.pl.as h, hrd, Ac.c, c1, c2, c3, c4, b2, b3, bl, br, zz7, hw]
                exact hn2 lv _ (by rw [hz, List.append_nil]; exact hO.more _) _ _ rfl rfl rfl rfl rfl rfl rfl rfl rfl rfl
              · have hz : arcP s.pl f x = pathL s.pl x.id := by simp only [arcP, pathP, hin, hp, Bool.and_false, Bool.and_true, Bool.true_and, Bool.false_and, Bool.and_self, Bool.or_false, Bool.or_true, Bool.true_or, Bool.false_or, Bool.or_self, cond_false, cond_true]
                obtain ⟨e, lv2, J2, happ, hO2⟩ := hap hp
                simp only [hp, cond_true] at c4
                simp only [Wall, e_nilchk, e_pick, e_box, e_bslice, e_load, e_store, e_eqb, e_eqp, e_eqs, e_eqagg, e_conv, e_faddr, e_field, e_extract, e_call, e_mx, mkAt, List.replicate, List.cons_append, List.nil_append, List.append_nil, List.all_cons, List.all_nil, Bool.and_self, Bool.and_true, Bool.true_and, if_true, List.length_nil, List.length_cons, Nat.zero_add, Nat.add_zero, Nat.reduceAdd, Nat.reduceMul, Nat.reduceLeDiff, Nat.le_refl, and_self, and_true, true_and, List.getElem?_cons_zero, List.getElem?_cons_succ, look, mkv, Option.map_some, Option.map_none, Option.bind_some, Bool.false_eq_true, if_false, List.map_cons, List.map_nil, binI, intBin, isShift, unI, reduceCtorEq, fillI, Nat.reduceEqDiff, Int.ofNat_lt, decide_true, decide_false, beq_iff_eq, cellV, List.append_assoc, List.length_append, Bool.not_true, Bool.not_false, h, hg, iaddrV_sl s.pl.as h, hrd, Ac.c, c1, c2, c3, c4, b2, b3, bl, br, zz0, hw, ev_append, app_src, app_ok, cellsI_sl, hql hp, happ]
                exact hn2 lv2 J2 (by rw [hz]; exact hO2) _ _ rfl rfl rfl rfl rfl rfl rfl rfl rfl rfl
          · -- the left side
            have hin : arcIn f x = true := by simp only [arcIn, b2, b3, bl, Bool.and_false, Bool.and_true, Bool.true_and, Bool.false_and, Bool.and_self, Bool.or_false, Bool.or_true, Bool.true_or, Bool.false_or, Bool.or_self, cond_false, cond_true]
            cases hp : pathOk s.pl x.id
            · have hz : arcP s.pl f x = [] := by simp only [arcP, pathP, hin, hp, Bool.and_false, Bool.and_true, Bool.true_and, Bool.false_and, Bool.and_self, Bool.or_false, Bool.or_true, Bool.true_or, Bool.false_or, Bool.or_self, cond_false, cond_true]
              simp only [hp, cond_false] at c4
              simp only [Wall, e_nilchk, e_pick, e_box, e_bslice, e_load, e_store, e_eqb, e_eqp, e_eqs, e_eqagg, e_conv, e_faddr, e_field, e_extract, e_call, e_mx, mkAt, List.replicate, List.cons_append, List.nil_append, List.append_nil, List.all_cons, List.all_nil, Bool.and_self, Bool.and_true, Bool.true_and, if_true, List.length_nil, List.length_cons, Nat.zero_add, Nat.add_zero, Nat.reduceAdd, Nat.reduceMul, Nat.reduceLeDiff, Nat.le_refl, and_self, and_true, true_and, List.getElem?_cons_zero, List.getElem?_cons_succ, look, mkv, Option.map_some, Option.map_none, Option.bind_some, Bool.false_eq_true, if_false, List.map_cons, List.map_nil, binI, intBin, isShift, unI, reduceCtorEq, fillI, Nat.reduceEqDiff, Int.ofNat_lt, decide_true, decide_false, beq_iff_eq, cellV, List.append_assoc, List.length_append, Bool.not_true, Bool.not_false, h, hg, iaddrV_sl s.pl.as h, hrd, Ac.c, c1, c2, c3, c4, b2, b3, bl, zz7, hw]
              exact hn2 lv _ (by rw [hz, List.append_nil]; exact hO.more _) _ _ rfl rfl rfl rfl rfl rfl rfl rfl rfl rfl
            · have hz : arcP s.pl f x = pathL s.pl x.id := by simp only [arcP, pathP, hin, hp, Bool.and_false, Bool.and_true, Bool.true_and, Bool.false_and, Bool.and_self, Bool.or_false, Bool.or_true, Bool.true_or, Bool.false_or, Bool.or_self, cond_false, cond_true]
              obtain ⟨e, lv2, J2, happ, hO2⟩ := hap hp
              simp only [hp, cond_true] at c4
              simp only [Wall, e_nilchk, e_pick, e_box, e_bslice, e_load, e_store, e_eqb, e_eqp, e_eqs, e_eqagg, e_conv, e_faddr, e_field, e_extract, e_call, e_mx, mkAt, List.replicate, List.cons_append, List.nil_append, List.append_nil, List.all_cons, List.all_nil, Bool.and_self, Bool.and_true, Bool.true_and, if_true, List.length_nil, List.length_cons, Nat.zero_add, Nat.add_zero, Nat.reduceAdd, Nat.reduceMul, Nat.reduceLeDiff, Nat.le_refl, and_self, and_true, true_and, List.getElem?_cons_zero, List.getElem?_cons_succ, look, mkv, Option.map_some, Option.map_none, Option.bind_some, Bool.false_eq_true, if_false, List.map_cons, List.map_nil, binI, intBin, isShift, unI, reduceCtorEq, fillI, Nat.reduceEqDiff, Int.ofNat_lt, decide_true, decide_false, beq_iff_eq, cellV, List.append_assoc, List.length_append, Bool.not_true, Bool.not_false, h, hg, iaddrV_sl s.pl.as h, hrd, Ac.c, c1, c2, c3, c4, b2, b3, bl, zz0, hw, ev_append, app_src, app_ok, cellsI_sl, hql hp, happ]
              exact hn2 lv2 J2 (by rw [hz]; exact hO2) _ _ rfl rfl rfl rfl rfl rfl rfl rfl rfl rfl
      · simp only [Wall, e_nilchk, e_pick, e_box, e_bslice, e_load, e_store, e_eqb, e_eqp, e_eqs, e_eqagg, e_conv, e_faddr, e_field, e_extract, e_call, e_mx, mkAt, List.replicate, List.cons_append, List.nil_append, List.append_nil, List.all_cons, List.all_nil, Bool.and_self, Bool.and_true, Bool.true_and, if_true, List.length_nil, List.length_cons, Nat.zero_add, Nat.add_zero, Nat.reduceAdd, Nat.reduceMul, Nat.reduceLeDiff, Nat.le_refl, and_self, and_true, true_and, List.getElem?_cons_zero, List.getElem?_cons_succ, look, mkv, Option.map_some, Option.map_none, Option.bind_some, Bool.false_eq_true, if_false, List.map_cons, List.map_nil, binI, intBin, isShift, unI, reduceCtorEq, fillI, Nat.reduceEqDiff, Int.ofNat_lt, decide_true, decide_false, beq_iff_eq, cellV, List.append_assoc, List.length_append, Bool.not_true, Bool.not_false, h]
        refine he _ _ ?_
        rw [List.take_of_length_le (by omega), ← hre] at hO
        simp only [Wall, e_nilchk, e_pick, e_box, e_bslice, e_load, e_store, e_eqb, e_eqp, e_eqs, e_eqagg, e_conv, e_faddr, e_field, e_extract, e_call, e_mx, mkAt, List.replicate, List.cons_append, List.nil_append, List.append_nil, List.all_cons, List.all_nil, Bool.and_self, Bool.and_true, Bool.true_and, if_true, List.length_nil, List.length_cons, Nat.zero_add, Nat.add_zero, Nat.reduceAdd, Nat.reduceMul, Nat.reduceLeDiff, Nat.le_refl, and_self, and_true, true_and, List.getElem?_cons_zero, List.getElem?_cons_succ, look, mkv, Option.map_some, Option.map_none, Option.bind_some, Bool.false_eq_true, if_false, List.map_cons, List.map_nil, binI, intBin, isShift, unI, reduceCtorEq, fillI, Nat.reduceEqDiff, Int.ofNat_lt, decide_true, decide_false, beq_iff_eq, cellV, List.append_assoc, List.length_append, Bool.not_true, Bool.not_false]
        exact ⟨_, rfl, ownJ_fz (Pre := [_, _]) Pt.c_len ptc_fz (by omega) hlx hO⟩
  exact start _ rfl
end
end Go.Proofs.YtbfljfjjnijigaaGreatDoor
end
section
namespace Go.Proofs.YtbfljfjjnijigaaGreatDoor
open Go Go.RowKit
set_option maxRecDepth 100000
set_option maxHeartbeats 1600000
section
variable {S : FuncId → List IV → Option IV}
theorem points_none (hS : NoS S) (s : Sv) (f : Ft) (h1 : (shapeI f.kind == 1) = false) (hg : decide (shapeI f.kind > 1) = false) (hlx : (refPts s.pl f).length < 9223372036854775808) : Gives Ftab S 27 [.agg s.c, .agg f.c] (rowQ Pt.c_len (refPts s.pl f) hlx).v := by
  obtain ⟨N0, hN0⟩ := gives_rshape hS f.kind
  have hre : refPts s.pl f = [] := by simp only [refPts, h1, hg, cond_false]
  refine gives_fr (i := i27) (hS _ _ (by decide) (by decide) (by decide) (by decide)) rfl rfl (N0 + 8) fun m hm d out => ?_
  obtain ⟨k, rfl⟩ : ∃ k, m = k + 1 := ⟨m - 1, by omega⟩
  have c0 := fun d out ownV own i => hN0 (k + 1) (by omega) d out ownV own i
  simp only [iv_eq] at c0
  have hfin : ∀ own : List IObj, freeze (k + 1) d own .nilsl = some (rowQ Pt.c_len (refPts s.pl f) hlx).v := fun own => by
    generalize refPts s.pl f = xs at hre hlx
    subst hre
    rfl
  cases ha : decide (0 < f.parts.l.length) <;> cases hb : decide (0 < s.pl.as.l.length)
  all_goals
    simp only [i27, Wall, e_nilchk, e_pick, e_box, e_bslice, e_load, e_store, e_eqb, e_eqp, e_eqs, e_eqagg, e_conv, e_faddr, e_field, e_extract, e_call, e_mx, mkAt, List.replicate, List.cons_append, List.nil_append, List.append_nil, List.all_cons, List.all_nil, Bool.and_self, Bool.and_true, Bool.true_and, if_true, List.length_nil, List.length_cons, Nat.zero_add, Nat.add_zero, Nat.reduceAdd, Nat.reduceMul, Nat.reduceLeDiff, Nat.le_refl, and_self, and_true, true_and, List.getElem?_cons_zero, List.getElem?_cons_succ, look, mkv, Option.map_some, Option.map_none, Option.bind_some, Bool.false_eq_true, if_false, List.map_cons, List.map_nil, binI, intBin, isShift, unI, reduceCtorEq, fillI, Nat.reduceEqDiff, Int.ofNat_lt, decide_true, decide_false, beq_iff_eq, cellV, List.append_assoc, List.length_append, Bool.not_true, Bool.not_false, Sv.c, Ft.c, c0, Ex_loop, Lp_succ, lt0, ha, hb, h1, hg]
    exact ⟨_, rfl, hfin _⟩
theorem gives_points (hS : NoS S) (s : Sv) (f : Ft) (hv : FewVia s.pl) (has : s.pl.as.l.length ≤ 1000) (hpa : f.parts.l.length ≤ 1000) (hlx : (refPts s.pl f).length < 9223372036854775808) : Gives Ftab S 27 [.agg s.c, .agg f.c] (rowQ Pt.c_len (refPts s.pl f) hlx).v := by
  cases h1 : shapeI f.kind == 1
  · cases hg : decide (shapeI f.kind > 1)
    · exact points_none hS s f h1 hg hlx
    · exact points_far hS s f h1 hg hv has hlx
  · exact points_near hS s f h1 hpa hlx
theorem refPts_lt {p : Pn} {f : Ft} (hv : FewVia p) (has : p.as.l.length ≤ 1000) (hpa : f.parts.l.length ≤ 1000) : (refPts p f).length ≤ 100002000 := by
  unfold refPts
  cases shapeI f.kind == 1
  · cases decide (shapeI f.kind > 1)
    · simp
    · have h1 := flat_le (l := p.as.l) fun a _ => arcP_le hv f a
      have h2 := Nat.mul_le_mul_right 100002 has
      simp only [cond_false, cond_true]
      omega
  · have h1 := flat_le (l := f.parts.l) fun a _ => nodeP_le p a
    simp only [cond_true]
    omega
def findD (s : Sv) (id : Int) : Ft := (s.ft.l.find? fun f => f.id == id).getD zFt
def findOk (s : Sv) (id : Int) : Bool := (s.ft.l.find? fun f => f.id == id).isSome
theorem refPts_same {p : Pn} {f : Ft} {q : SlOf 1 intc} (h : q.l = f.parts.l) : refPts p { f with parts := q } = refPts p f := by
  unfold refPts
  have : arcP p { f with parts := q } = arcP p f := by
    funext a
    unfold arcP arcIn
    simp only [h]
  simp only [h, this]
theorem rowQ_len {xs : List Pt} (hx : xs.length < 9223372036854775808) : (rowQ Pt.c_len xs hx).l.length = xs.length := by rw [rowQ_l]
end
end Go.Proofs.YtbfljfjjnijigaaGreatDoor
end
section
namespace Go.Proofs.YtbfljfjjnijigaaGreatDoor
open Go Go.RowKit
set_option maxRecDepth 100000
set_option maxHeartbeats 1600000
def zBox : Bx := ⟨0, 0, 0, 0⟩
theorem bndR_fz (x : Bx) (b : Bool) : Fz (1 + 1 + 1) (.tuple [.agg x.r, .bool b]) := by
  refine fz_tuple fun y hy => ?_
  simp only [List.mem_cons, List.not_mem_nil, or_false] at hy
  rcases hy with rfl | rfl
  · exact box_fz x
  · exact fz_bool.le (by omega)
def boxP (l : List Pt) : Bx := match l with
  | [] => zBox
  | p :: t => boxL p (p :: t)
def hasP (l : List Pt) : Bool := match l with
  | [] => false
  | _ :: _ => true
section
variable {S : FuncId → List IV → Option IV}
theorem gives_rbounds (hS : NoS S) (s : Sv) (id : Int) (hv : FewVia s.pl) (has : s.pl.as.l.length ≤ 1000) (hpa : ∀ f ∈ s.ft.l, f.parts.l.length ≤ 1000) :
    Gives Ftab S 9 [.agg s.c, iv id] (.tuple [.agg (boxP (bif findOk s id then refPts s.pl (findD s id) else [])).r, .bool (findOk s id && hasP (refPts s.pl (findD s id)))]) := by
  obtain ⟨q', hq', N1, hN1⟩ := gives_rfind hS s id (fun f hf => by have := hpa f hf; omega)
  have hq2 : q'.l = (findD s id).parts.l := hq'
  have hpd : q'.l.length ≤ 1000 := by
    rw [hq2]
    unfold findD
    cases hf : s.ft.l.find? fun f => f.id == id with
    | none => simp [zFt, nilS]
    | some f => exact hpa f (List.mem_of_find?_eq_some hf)
  have hre : refPts s.pl { findD s id with parts := q' } = refPts s.pl (findD s id) := refPts_same hq2
  have hlx : (refPts s.pl { findD s id with parts := q' }).length < 9223372036854775808 := by
    have := refPts_lt (f := { findD s id with parts := q' }) hv has hpd
    omega
  obtain ⟨N2, hN2⟩ := gives_points hS s { findD s id with parts := q' } hv has hpd hlx
  have hpl : (rowQ Pt.c_len (refPts s.pl { findD s id with parts := q' }) hlx).l = refPts s.pl (findD s id) := by rw [rowQ_l, hre]
  generalize rowQ Pt.c_len (refPts s.pl { findD s id with parts := q' }) hlx = pq at hN2 hpl
  have e1 : ((s.ft.l.find? fun f => f.id == id).getD zFt) = findD s id := rfl
  have e2 : (s.ft.l.find? fun f => f.id == id).isSome = findOk s id := rfl
  refine gives_fz (i := i9) (hS _ _ (by decide) (by decide) (by decide) (by decide)) rfl rfl (bndR_fz _ _) (N1 + N2 + pq.l.length + 8) (by omega) fun m hm d out => ?_
  have c1 := fun d out ownV own i => hN1 m (by omega) d out ownV own i
  have c2 := fun d out ownV own i => hN2 m (by omega) d out ownV own i
  simp only [e1, e2, iv_eq, Sv.c, Ft.c] at c1 c2
  cases hok : findOk s id
  · simp only [hok] at c1
    simp only [i9, Wall, e_nilchk, e_pick, e_box, e_bslice, e_load, e_store, e_eqb, e_eqp, e_eqs, e_eqagg, e_conv, e_faddr, e_field, e_extract, e_call, e_mx, mkAt, List.replicate, List.cons_append, List.nil_append, List.append_nil, List.all_cons, List.all_nil, Bool.and_self, Bool.and_true, Bool.true_and, if_true, List.length_nil, List.length_cons, Nat.zero_add, Nat.add_zero, Nat.reduceAdd, Nat.reduceMul, Nat.reduceLeDiff, Nat.le_refl, and_self, and_true, true_and, List.getElem?_cons_zero, List.getElem?_cons_succ, look, mkv, Option.map_some, Option.map_none, Option.bind_some, Bool.false_eq_true, if_false, List.map_cons, List.map_nil, binI, intBin, isShift, unI, reduceCtorEq, fillI, Nat.reduceEqDiff, Int.ofNat_lt, decide_true, decide_false, beq_iff_eq, cellV, List.append_assoc, List.length_append, Bool.not_true, Bool.not_false, Sv.c, c1, cond_false, Bool.false_and, boxP, zBox, Bx.r]
  · simp only [hok] at c1
    rw [← hpl]
    cases hp : pq.l with
    | nil =>
      have hz : (((pq.l.length : Nat) : Int) == 0) = true := by rw [hp]; decide
      simp only [i9, Wall, e_nilchk, e_pick, e_box, e_bslice, e_load, e_store, e_eqb, e_eqp, e_eqs, e_eqagg, e_conv, e_faddr, e_field, e_extract, e_call, e_mx, mkAt, List.replicate, List.cons_append, List.nil_append, List.append_nil, List.all_cons, List.all_nil, Bool.and_self, Bool.and_true, Bool.true_and, if_true, List.length_nil, List.length_cons, Nat.zero_add, Nat.add_zero, Nat.reduceAdd, Nat.reduceMul, Nat.reduceLeDiff, Nat.le_refl, and_self, and_true, true_and, List.getElem?_cons_zero, List.getElem?_cons_succ, look, mkv, Option.map_some, Option.map_none, Option.bind_some, Bool.false_eq_true, if_false, List.map_cons, List.map_nil, binI, intBin, isShift, unI, reduceCtorEq, fillI, Nat.reduceEqDiff, Int.ofNat_lt, decide_true, decide_false, beq_iff_eq, cellV, List.append_assoc, List.length_append, Bool.not_true, Bool.not_false, Sv.c, Ft.c, c1, c2, hz, cond_true, boxP, zBox, Bx.r, hasP]
    | cons p0 tl =>
      have hpos : 0 < pq.l.length := by rw [hp]; simp
      have hz : (((pq.l.length : Nat) : Int) == 0) = false := by rw [beq_eq_false_iff_ne]; omega
      have hp0 : pq.l[0]? = some p0 := by rw [hp]; rfl
      have hr0 : rdN (pq.l.flatMap Pt.c) (0 * 2) 1 = some [.int .i64 p0.x] := (rdN_flat Pt.c_len 0 1 hp0 (by omega)).trans rfl
      have hr1 : rdN (pq.l.flatMap Pt.c) (0 * 2 + 1) 1 = some [.int .i64 p0.y] := (rdN_flat Pt.c_len 1 1 hp0 (by omega)).trans rfl
      have hia := fun own => iaddrV_sl (own := own) pq (k := .i64) hpos
      simp only [Nat.zero_mul, Nat.zero_add] at hr0 hr1 hia
      have hia0 : ∀ own, iaddrV own 2 pq.v (.int .i64 0) = some (.p, .ptrC (pq.l.flatMap Pt.c) 0, own) := fun own => hia own
      have hbx : boxP (p0 :: tl) = boxL p0 pq.l := by rw [hp]; rfl
      have hhp : hasP (p0 :: tl) = true := rfl
      simp only [cond_true, hbx, hhp, Bool.and_self]
      simp only [i9, Wall, e_nilchk, e_pick, e_box, e_bslice, e_load, e_store, e_eqb, e_eqp, e_eqs, e_eqagg, e_conv, e_faddr, e_field, e_extract, e_call, e_mx, mkAt, List.replicate, List.cons_append, List.nil_append, List.append_nil, List.all_cons, List.all_nil, Bool.and_self, Bool.and_true, Bool.true_and, if_true, List.length_nil, List.length_cons, Nat.zero_add, Nat.add_zero, Nat.reduceAdd, Nat.reduceMul, Nat.reduceLeDiff, Nat.le_refl, and_self, and_true, true_and, List.getElem?_cons_zero, List.getElem?_cons_succ, look, mkv, Option.map_some, Option.map_none, Option.bind_some, Bool.false_eq_true, if_false, List.map_cons, List.map_nil, binI, intBin, isShift, unI, reduceCtorEq, fillI, Nat.reduceEqDiff, Int.ofNat_lt, decide_true, decide_false, beq_iff_eq, cellV, List.append_assoc, List.length_append, Bool.not_true, Bool.not_false, Sv.c, Ft.c, c1, c2, hz, hia0, hr0, hr1]
      refine ⟨by simp [comm], ?_⟩
      simp only [Wall, e_nilchk, e_pick, e_box, e_bslice, e_load, e_store, e_eqb, e_eqp, e_eqs, e_eqagg, e_conv, e_faddr, e_field, e_extract, e_call, e_mx, mkAt, List.replicate, List.cons_append, List.nil_append, List.append_nil, List.all_cons, List.all_nil, Bool.and_self, Bool.and_true, Bool.true_and, if_true, List.length_nil, List.length_cons, Nat.zero_add, Nat.add_zero, Nat.reduceAdd, Nat.reduceMul, Nat.reduceLeDiff, Nat.le_refl, and_self, and_true, true_and, List.getElem?_cons_zero, List.getElem?_cons_succ, look, mkv, Option.map_some, Option.map_none, Option.bind_some, Bool.false_eq_true, if_false, List.map_cons, List.map_nil, binI, intBin, isShift, unI, reduceCtorEq, fillI, Nat.reduceEqDiff, Int.ofNat_lt, decide_true, decide_false, beq_iff_eq, cellV, List.append_assoc, List.length_append, Bool.not_true, Bool.not_false]
      refine ex_rounds (fun j st => ∃ i O2 O3 O4, j = pq.l.length - i ∧ i ≤ pq.l.length ∧ st.t.length = 84 ∧ getK (.tuple []) st.t 2 = .ptrM d 0 0 ∧ getK (.tuple []) st.t 4 = .ptrM d 1 0 ∧ getK (.tuple []) st.t 5 = .bool false ∧ getK (.tuple []) st.t 8 = pq.v ∧ getK (.tuple []) st.t 9 = .ptrM d 5 0 ∧ getK (.tuple []) st.t 10 = iv i ∧ st.own = .cells [s.pl.ns.v, s.pl.as.v, s.pl.fs.v, s.ft.v] :: .cells [.int .i64 0, .int .i64 0, .int .i64 0, .int .i64 0] :: O2 :: O3 :: O4 :: .cells (boxL p0 (pq.l.take i)).r :: []) pq.l.length (by omega) ⟨0, _, _, _, by omega, by omega, rfl, rfl, rfl, rfl, rfl, rfl, rfl, rfl⟩ ?_
      rintro j ⟨t, own⟩ K ⟨i, O2, O3, O4, rfl, hi, hl, k2, k4, k5, k8, k9, k10, ho⟩ hn he hr
      dsimp only at hl k2 k4 k5 k8 k9 k10 ho
      have ht : t = [getK (.tuple []) t 0, getK (.tuple []) t 1, getK (.tuple []) t 2, getK (.tuple []) t 3, getK (.tuple []) t 4, getK (.tuple []) t 5, getK (.tuple []) t 6, getK (.tuple []) t 7, getK (.tuple []) t 8, getK (.tuple []) t 9, getK (.tuple []) t 10, getK (.tuple []) t 11, getK (.tuple []) t 12, getK (.tuple []) t 13, getK (.tuple []) t 14, getK (.tuple []) t 15, getK (.tuple []) t 16, getK (.tuple []) t 17, getK (.tuple []) t 18, getK (.tuple []) t 19, getK (.tuple []) t 20, getK (.tuple []) t 21, getK (.tuple []) t 22, getK (.tuple []) t 23, getK (.tuple []) t 24, getK (.tuple []) t 25, getK (.tuple []) t 26, getK (.tuple []) t 27, getK (.tuple []) t 28, getK (.tuple []) t 29, getK (.tuple []) t 30, getK (.tuple []) t 31, getK (.tuple []) t 32, getK (.tuple []) t 33, getK (.tuple []) t 34, getK (.tuple []) t 35, getK (.tuple []) t 36, getK (.tuple []) t 37, getK (.tuple []) t 38, getK (.tuple []) t 39, getK (.tuple []) t 40, getK (.tuple []) t 41, getK (.tuple []) t 42, getK (.tuple []) t 43, getK (.tuple []) t 44, getK (.tuple []) t 45, getK (.tuple []) t 46, getK (.tuple []) t 47, getK (.tuple []) t 48, getK (.tuple []) t 49, getK (.tuple []) t 50, getK (.tuple []) t 51, getK (.tuple []) t 52, getK (.tuple []) t 53, getK (.tuple []) t 54, getK (.tuple []) t 55, getK (.tuple []) t 56, getK (.tuple []) t 57, getK (.tuple []) t 58, getK (.tuple []) t 59, getK (.tuple []) t 60, getK (.tuple []) t 61, getK (.tuple []) t 62, getK (.tuple []) t 63, getK (.tuple []) t 64, getK (.tuple []) t 65, getK (.tuple []) t 66, getK (.tuple []) t 67, getK (.tuple []) t 68, getK (.tuple []) t 69, getK (.tuple []) t 70, getK (.tuple []) t 71, getK (.tuple []) t 72, getK (.tuple []) t 73, getK (.tuple []) t 74, getK (.tuple []) t 75, getK (.tuple []) t 76, getK (.tuple []) t 77, getK (.tuple []) t 78, getK (.tuple []) t 79, getK (.tuple []) t 80, getK (.tuple []) t 81, getK (.tuple []) t 82, getK (.tuple []) t 83] := expand_t hl
      simp only [k2, k4, k5, k8, k9, k10] at ht
      generalize getK (.tuple []) t = r at ht
      subst ht
      subst ho
      by_cases h : i < pq.l.length
      · have hx : pq.l[i]? = some pq.l[i] := List.getElem?_eq_getElem h
        generalize pq.l[i] = x at hx
        have hrx : rdN (pq.l.flatMap Pt.c) (i * 2) 1 = some [.int .i64 x.x] := (rdN_flat Pt.c_len 0 1 hx (by omega)).trans rfl
        have hry : rdN (pq.l.flatMap Pt.c) (i * 2 + 1) 1 = some [.int .i64 x.y] := (rdN_flat Pt.c_len 1 1 hx (by omega)).trans rfl
        have hw : wrapI .i64 ((i : Int) + 1) = ((i + 1 : Nat) : Int) := wrap_succ (by have := pq.few; omega)
        have hnx := box_next (p := p0) hx
        generalize boxL p0 (pq.l.take i) = bx at hnx
        simp only [Wall, e_nilchk, e_pick, e_box, e_bslice, e_load, e_store, e_eqb, e_eqp, e_eqs, e_eqagg, e_conv, e_faddr, e_field, e_extract, e_call, e_mx, mkAt, List.replicate, List.cons_append, List.nil_append, List.append_nil, List.all_cons, List.all_nil, Bool.and_self, Bool.and_true, Bool.true_and, if_true, List.length_nil, List.length_cons, Nat.zero_add, Nat.add_zero, Nat.reduceAdd, Nat.reduceMul, Nat.reduceLeDiff, Nat.le_refl, and_self, and_true, true_and, List.getElem?_cons_zero, List.getElem?_cons_succ, look, mkv, Option.map_some, Option.map_none, Option.bind_some, Bool.false_eq_true, if_false, List.map_cons, List.map_nil, binI, intBin, isShift, unI, reduceCtorEq, fillI, Nat.reduceEqDiff, Int.ofNat_lt, decide_true, decide_false, beq_iff_eq, cellV, List.append_assoc, List.length_append, Bool.not_true, Bool.not_false, h, iaddrV_sl pq h, hrx, hry, Bx.r]
        refine ⟨by simp [comm], ?_⟩
        simp only [Wall, e_nilchk, e_pick, e_box, e_bslice, e_load, e_store, e_eqb, e_eqp, e_eqs, e_eqagg, e_conv, e_faddr, e_field, e_extract, e_call, e_mx, mkAt, List.replicate, List.cons_append, List.nil_append, List.append_nil, List.all_cons, List.all_nil, Bool.and_self, Bool.and_true, Bool.true_and, if_true, List.length_nil, List.length_cons, Nat.zero_add, Nat.add_zero, Nat.reduceAdd, Nat.reduceMul, Nat.reduceLeDiff, Nat.le_refl, and_self, and_true, true_and, List.getElem?_cons_zero, List.getElem?_cons_succ, look, mkv, Option.map_some, Option.map_none, Option.bind_some, Bool.false_eq_true, if_false, List.map_cons, List.map_nil, binI, intBin, isShift, unI, reduceCtorEq, fillI, Nat.reduceEqDiff, Int.ofNat_lt, decide_true, decide_false, beq_iff_eq, cellV, List.append_assoc, List.length_append, Bool.not_true, Bool.not_false, hw]
        exact hn _ (pq.l.length - (i + 1)) (by omega) ⟨i + 1, O2, O3, O4, rfl, by omega, rfl, rfl, rfl, rfl, rfl, rfl, rfl, by rw [hnx]; rfl⟩
      · simp only [Wall, e_nilchk, e_pick, e_box, e_bslice, e_load, e_store, e_eqb, e_eqp, e_eqs, e_eqagg, e_conv, e_faddr, e_field, e_extract, e_call, e_mx, mkAt, List.replicate, List.cons_append, List.nil_append, List.append_nil, List.all_cons, List.all_nil, Bool.and_self, Bool.and_true, Bool.true_and, if_true, List.length_nil, List.length_cons, Nat.zero_add, Nat.add_zero, Nat.reduceAdd, Nat.reduceMul, Nat.reduceLeDiff, Nat.le_refl, and_self, and_true, true_and, List.getElem?_cons_zero, List.getElem?_cons_succ, look, mkv, Option.map_some, Option.map_none, Option.bind_some, Bool.false_eq_true, if_false, List.map_cons, List.map_nil, binI, intBin, isShift, unI, reduceCtorEq, fillI, Nat.reduceEqDiff, Int.ofNat_lt, decide_true, decide_false, beq_iff_eq, cellV, List.append_assoc, List.length_append, Bool.not_true, Bool.not_false, h, Bx.r]
        refine he _ _ ?_
        rw [List.take_of_length_le (by omega)]
        simp only [Wall, e_nilchk, e_pick, e_box, e_bslice, e_load, e_store, e_eqb, e_eqp, e_eqs, e_eqagg, e_conv, e_faddr, e_field, e_extract, e_call, e_mx, mkAt, List.replicate, List.cons_append, List.nil_append, List.append_nil, List.all_cons, List.all_nil, Bool.and_self, Bool.and_true, Bool.true_and, if_true, List.length_nil, List.length_cons, Nat.zero_add, Nat.add_zero, Nat.reduceAdd, Nat.reduceMul, Nat.reduceLeDiff, Nat.le_refl, and_self, and_true, true_and, List.getElem?_cons_zero, List.getElem?_cons_succ, look, mkv, Option.map_some, Option.map_none, Option.bind_some, Bool.false_eq_true, if_false, List.map_cons, List.map_nil, binI, intBin, isShift, unI, reduceCtorEq, fillI, Nat.reduceEqDiff, Int.ofNat_lt, decide_true, decide_false, beq_iff_eq, cellV, List.append_assoc, List.length_append, Bool.not_true, Bool.not_false, Bx.r]
end
end Go.Proofs.YtbfljfjjnijigaaGreatDoor
end
section
namespace Go.Proofs.YtbfljfjjnijigaaGreatDoor
open Go Go.RowKit
set_option maxRecDepth 100000
set_option maxHeartbeats 1600000
section
variable {F : FuncId → Option IFn} {S : FuncId → List IV → Option IV}
theorem gives_at {f : FuncId} {i : IFn} {args : Nat → List IV} {v : IV} {k dc m : Nat} {out : Nat → List IObj} {ownV own : List IObj} {id : Nat} (hS : S f (args dc) = none) (hi : F f = some i) (hm : i.mode = 0) (hv : Fz k v) (hN : k ≤ m)
    (h : Ex (callN F S m) (dc + 1) (fun l => if l = dc then ownV else out l) m i.body (Fin (dc + 1) (fun l => if l = dc then ownV else out l) i.res v) ⟨args dc ++ List.replicate (i.ntmps - (args dc).length) (.tuple []), []⟩) : callN F S (m + 1) dc out ownV own id f (args dc) = some (.r, v, own) := by
  obtain ⟨o, st, h1, h2, h3⟩ := h
  have hm2 : ¬ i.mode = 2 := by omega
  have hm1 : ¬ i.mode = 1 := by omega
  have h4 := hv m hN (dc + 1) st.own
  simp only [callN, hS, hi, if_neg hm2, lit_eq, h1]
  rcases h2 with rfl | rfl <;> simp only [ended, h3, Option.bind_some, leave, if_neg hm1, h4, Option.map_some]
end
section
variable {S : FuncId → List IV → Option IV}
theorem ring_own (hS : NoS S) (l : List Pt) (p : Pt) (hp : l[0]? = some p) (hl : l.length ≤ 1073741824) : ∀ m, l.length + 6 ≤ m → ∀ dc out ownV own id b, ownV[b]? = some (.cells (l.flatMap Pt.c)) → callN Ftab S m dc out ownV own id 26 [.slM dc b 0 l.length l.length 2 false] = some (.r, .agg (boxL p l).r, own) := by
  intro m hm dc out ownV own id b hob
  obtain ⟨m, rfl⟩ : ∃ q, m = q + 1 := ⟨m - 1, by omega⟩
  refine gives_at (i := i26) (args := fun dc => [.slM dc b 0 l.length l.length 2 false]) (hS _ _ (by decide) (by decide) (by decide) (by decide)) rfl rfl (box_fz _) (by omega) ?_
  have hpos : 0 < l.length := (List.getElem?_eq_some_iff.1 hp).1
  have hne : (((l.length : Nat) : Int) == 0) = false := by rw [beq_eq_false_iff_ne]; omega
  have d1 : ¬ dc = dc + 1 := by omega
  have d2 : dc < dc + 1 := by omega
  have hr0 : rdN (l.flatMap Pt.c) (0 * 2) 1 = some [.int .i64 p.x] := (rdN_flat Pt.c_len 0 1 hp (by omega)).trans rfl
  have hr1 : rdN (l.flatMap Pt.c) (0 * 2 + 1) 1 = some [.int .i64 p.y] := (rdN_flat Pt.c_len 1 1 hp (by omega)).trans rfl
  have hia := fun own => iaddrV_slM (own := own) (l := dc) (b := b) (off := 0) (cap := l.length) (z := 2) (z' := 2) (tight := false) (k := .i64) hpos
  simp only [Nat.zero_mul, Nat.zero_add, Nat.add_zero] at hr0 hr1 hia
  have hia0 : ∀ own, iaddrV own 2 (.slM dc b 0 l.length l.length 2 false) (.int .i64 0) = some (.p, .ptrM dc b 0, own) := fun own => hia own
  simp only [i26, Wall, e_nilchk, e_pick, e_box, e_bslice, e_load, e_store, e_eqb, e_eqp, e_eqs, e_eqagg, e_conv, e_faddr, e_field, e_extract, e_call, e_mx, mkAt, List.replicate, List.cons_append, List.nil_append, List.append_nil, List.all_cons, List.all_nil, Bool.and_self, Bool.and_true, Bool.true_and, if_true, List.length_nil, List.length_cons, Nat.zero_add, Nat.add_zero, Nat.reduceAdd, Nat.reduceMul, Nat.reduceLeDiff, Nat.le_refl, and_self, and_true, true_and, List.getElem?_cons_zero, List.getElem?_cons_succ, look, mkv, Option.map_some, Option.map_none, Option.bind_some, Bool.false_eq_true, if_false, List.map_cons, List.map_nil, binI, intBin, isShift, unI, reduceCtorEq, fillI, Nat.reduceEqDiff, Int.ofNat_lt, decide_true, decide_false, beq_iff_eq, cellV, List.append_assoc, List.length_append, Bool.not_true, Bool.not_false, hne, hia0, d1, d2, hob, hr0, hr1]
  refine ⟨by simp [comm], ?_⟩
  simp only [Wall, e_nilchk, e_pick, e_box, e_bslice, e_load, e_store, e_eqb, e_eqp, e_eqs, e_eqagg, e_conv, e_faddr, e_field, e_extract, e_call, e_mx, mkAt, List.replicate, List.cons_append, List.nil_append, List.append_nil, List.all_cons, List.all_nil, Bool.and_self, Bool.and_true, Bool.true_and, if_true, List.length_nil, List.length_cons, Nat.zero_add, Nat.add_zero, Nat.reduceAdd, Nat.reduceMul, Nat.reduceLeDiff, Nat.le_refl, and_self, and_true, true_and, List.getElem?_cons_zero, List.getElem?_cons_succ, look, mkv, Option.map_some, Option.map_none, Option.bind_some, Bool.false_eq_true, if_false, List.map_cons, List.map_nil, binI, intBin, isShift, unI, reduceCtorEq, fillI, Nat.reduceEqDiff, Int.ofNat_lt, decide_true, decide_false, beq_iff_eq, cellV, List.append_assoc, List.length_append, Bool.not_true, Bool.not_false]
  refine ex_rounds (fun j st => ∃ i J, j = l.length - i ∧ i ≤ l.length ∧ st.t.length = 58 ∧ getK (.tuple []) st.t 0 = .slM dc b 0 l.length l.length 2 false ∧ getK (.tuple []) st.t 2 = .ptrM (dc + 1) 0 0 ∧ getK (.tuple []) st.t 26 = .slM dc b 0 l.length l.length 2 false ∧ getK (.tuple []) st.t 27 = iv (l.length : Nat) ∧ getK (.tuple []) st.t 28 = iv i ∧ st.own = .cells (boxL p (l.take i)).r :: J) l.length (by omega) ⟨0, [], by omega, by omega, rfl, rfl, rfl, rfl, rfl, rfl, rfl⟩ ?_
  rintro j ⟨t, own⟩ K ⟨i, J, rfl, hi, hl, k0, k2, k26, k27, k28, ho⟩ hn he hr
  dsimp only at hl k0 k2 k26 k27 k28 ho
  have ht : t = [getK (.tuple []) t 0, getK (.tuple []) t 1, getK (.tuple []) t 2, getK (.tuple []) t 3, getK (.tuple []) t 4, getK (.tuple []) t 5, getK (.tuple []) t 6, getK (.tuple []) t 7, getK (.tuple []) t 8, getK (.tuple []) t 9, getK (.tuple []) t 10, getK (.tuple []) t 11, getK (.tuple []) t 12, getK (.tuple []) t 13, getK (.tuple []) t 14, getK (.tuple []) t 15, getK (.tuple []) t 16, getK (.tuple []) t 17, getK (.tuple []) t 18, getK (.tuple []) t 19, getK (.tuple []) t 20, getK (.tuple []) t 21, getK (.tuple []) t 22, getK (.tuple []) t 23, getK (.tuple []) t 24, getK (.tuple []) t 25, getK (.tuple []) t 26, getK (.tuple []) t 27, getK (.tuple []) t 28, getK (.tuple []) t 29, getK (.tuple []) t 30, getK (.tuple []) t 31, getK (.tuple []) t 32, getK (.tuple []) t 33, getK (.tuple []) t 34, getK (.tuple []) t 35, getK (.tuple []) t 36, getK (.tuple []) t 37, getK (.tuple []) t 38, getK (.tuple []) t 39, getK (.tuple []) t 40, getK (.tuple []) t 41, getK (.tuple []) t 42, getK (.tuple []) t 43, getK (.tuple []) t 44, getK (.tuple []) t 45, getK (.tuple []) t 46, getK (.tuple []) t 47, getK (.tuple []) t 48, getK (.tuple []) t 49, getK (.tuple []) t 50, getK (.tuple []) t 51, getK (.tuple []) t 52, getK (.tuple []) t 53, getK (.tuple []) t 54, getK (.tuple []) t 55, getK (.tuple []) t 56, getK (.tuple []) t 57] := expand_t hl
  simp only [k0, k2, k26, k27, k28] at ht
  generalize getK (.tuple []) t = r at ht
  subst ht
  subst ho
  by_cases h : i < l.length
  · have hx : l[i]? = some l[i] := List.getElem?_eq_getElem h
    generalize l[i] = x at hx
    have hrd : rdN (l.flatMap Pt.c) (i * 2) 2 = some x.c := (rdN_flat Pt.c_len 0 2 hx (by omega)).trans rfl
    have hw : wrapI .i64 ((i : Int) + 1) = ((i + 1 : Nat) : Int) := wrap_succ (by omega)
    have hi2 := fun own => iaddrV_slM (own := own) (l := dc) (b := b) (off := 0) (cap := l.length) (z := 2) (z' := 2) (tight := false) (k := .i64) h
    simp only [Nat.zero_add] at hi2
    have hnx := box_next (p := p) hx
    generalize boxL p (l.take i) = bx at hnx
    simp only [Wall, e_nilchk, e_pick, e_box, e_bslice, e_load, e_store, e_eqb, e_eqp, e_eqs, e_eqagg, e_conv, e_faddr, e_field, e_extract, e_call, e_mx, mkAt, List.replicate, List.cons_append, List.nil_append, List.append_nil, List.all_cons, List.all_nil, Bool.and_self, Bool.and_true, Bool.true_and, if_true, List.length_nil, List.length_cons, Nat.zero_add, Nat.add_zero, Nat.reduceAdd, Nat.reduceMul, Nat.reduceLeDiff, Nat.le_refl, and_self, and_true, true_and, List.getElem?_cons_zero, List.getElem?_cons_succ, look, mkv, Option.map_some, Option.map_none, Option.bind_some, Bool.false_eq_true, if_false, List.map_cons, List.map_nil, binI, intBin, isShift, unI, reduceCtorEq, fillI, Nat.reduceEqDiff, Int.ofNat_lt, decide_true, decide_false, beq_iff_eq, cellV, List.append_assoc, List.length_append, Bool.not_true, Bool.not_false, h, hi2, d1, d2, hob, hrd, Pt.c, Bx.r]
    refine ⟨by simp [comm], ?_⟩
    simp only [Wall, e_nilchk, e_pick, e_box, e_bslice, e_load, e_store, e_eqb, e_eqp, e_eqs, e_eqagg, e_conv, e_faddr, e_field, e_extract, e_call, e_mx, mkAt, List.replicate, List.cons_append, List.nil_append, List.append_nil, List.all_cons, List.all_nil, Bool.and_self, Bool.and_true, Bool.true_and, if_true, List.length_nil, List.length_cons, Nat.zero_add, Nat.add_zero, Nat.reduceAdd, Nat.reduceMul, Nat.reduceLeDiff, Nat.le_refl, and_self, and_true, true_and, List.getElem?_cons_zero, List.getElem?_cons_succ, look, mkv, Option.map_some, Option.map_none, Option.bind_some, Bool.false_eq_true, if_false, List.map_cons, List.map_nil, binI, intBin, isShift, unI, reduceCtorEq, fillI, Nat.reduceEqDiff, Int.ofNat_lt, decide_true, decide_false, beq_iff_eq, cellV, List.append_assoc, List.length_append, Bool.not_true, Bool.not_false]
    refine ⟨by simp [comm], ?_⟩
    simp only [Wall, e_nilchk, e_pick, e_box, e_bslice, e_load, e_store, e_eqb, e_eqp, e_eqs, e_eqagg, e_conv, e_faddr, e_field, e_extract, e_call, e_mx, mkAt, List.replicate, List.cons_append, List.nil_append, List.append_nil, List.all_cons, List.all_nil, Bool.and_self, Bool.and_true, Bool.true_and, if_true, List.length_nil, List.length_cons, Nat.zero_add, Nat.add_zero, Nat.reduceAdd, Nat.reduceMul, Nat.reduceLeDiff, Nat.le_refl, and_self, and_true, true_and, List.getElem?_cons_zero, List.getElem?_cons_succ, look, mkv, Option.map_some, Option.map_none, Option.bind_some, Bool.false_eq_true, if_false, List.map_cons, List.map_nil, binI, intBin, isShift, unI, reduceCtorEq, fillI, Nat.reduceEqDiff, Int.ofNat_lt, decide_true, decide_false, beq_iff_eq, cellV, List.append_assoc, List.length_append, Bool.not_true, Bool.not_false, hw]
    exact hn _ (l.length - (i + 1)) (by omega) ⟨i + 1, _, rfl, by omega, rfl, rfl, rfl, rfl, rfl, rfl, by rw [hnx]; rfl⟩
  · simp only [Wall, e_nilchk, e_pick, e_box, e_bslice, e_load, e_store, e_eqb, e_eqp, e_eqs, e_eqagg, e_conv, e_faddr, e_field, e_extract, e_call, e_mx, mkAt, List.replicate, List.cons_append, List.nil_append, List.append_nil, List.all_cons, List.all_nil, Bool.and_self, Bool.and_true, Bool.true_and, if_true, List.length_nil, List.length_cons, Nat.zero_add, Nat.add_zero, Nat.reduceAdd, Nat.reduceMul, Nat.reduceLeDiff, Nat.le_refl, and_self, and_true, true_and, List.getElem?_cons_zero, List.getElem?_cons_succ, look, mkv, Option.map_some, Option.map_none, Option.bind_some, Bool.false_eq_true, if_false, List.map_cons, List.map_nil, binI, intBin, isShift, unI, reduceCtorEq, fillI, Nat.reduceEqDiff, Int.ofNat_lt, decide_true, decide_false, beq_iff_eq, cellV, List.append_assoc, List.length_append, Bool.not_true, Bool.not_false, h, Bx.r]
    refine he _ _ ?_
    rw [List.take_of_length_le (by omega)]
    simp only [Wall, e_nilchk, e_pick, e_box, e_bslice, e_load, e_store, e_eqb, e_eqp, e_eqs, e_eqagg, e_conv, e_faddr, e_field, e_extract, e_call, e_mx, mkAt, List.replicate, List.cons_append, List.nil_append, List.append_nil, List.all_cons, List.all_nil, Bool.and_self, Bool.and_true, Bool.true_and, if_true, List.length_nil, List.length_cons, Nat.zero_add, Nat.add_zero, Nat.reduceAdd, Nat.reduceMul, Nat.reduceLeDiff, Nat.le_refl, and_self, and_true, true_and, List.getElem?_cons_zero, List.getElem?_cons_succ, look, mkv, Option.map_some, Option.map_none, Option.bind_some, Bool.false_eq_true, if_false, List.map_cons, List.map_nil, binI, intBin, isShift, unI, reduceCtorEq, fillI, Nat.reduceEqDiff, Int.ofNat_lt, decide_true, decide_false, beq_iff_eq, cellV, List.append_assoc, List.length_append, Bool.not_true, Bool.not_false, Bx.r]
end
end Go.Proofs.YtbfljfjjnijigaaGreatDoor
end
section
namespace Go.Proofs.YtbfljfjjnijigaaGreatDoor
open Go Go.RowKit
set_option maxRecDepth 100000
set_option maxHeartbeats 1600000
section
variable {F : FuncId → Option IFn} {S : FuncId → List IV → Option IV}
def FinX (d : Nat) (out : Nat → List IObj) (rs : List IRes) (v : IV) (Q : List IObj → Prop) (o : Out) (st : St) : Prop := (o = .normal ∨ o = .ret) ∧ resultI d out st rs = some v ∧ Q st.own
variable {d : Nat} {out : Nat → List IObj} {rs : List IRes} {v : IV} {Q : List IObj → Prop} {st : St}
theorem FinX_ret : FinX d out rs v Q .ret st = (resultI d out st rs = some v ∧ Q st.own) := propext ⟨fun h => h.2, fun h => ⟨.inr rfl, h⟩⟩
theorem FinX_normal : FinX d out rs v Q .normal st = (resultI d out st rs = some v ∧ Q st.own) := propext ⟨fun h => h.2, fun h => ⟨.inl rfl, h⟩⟩
theorem gives_x {f : FuncId} {i : IFn} {args : List IV} {m : Nat} {ownV own : List IObj} {id : Nat} (hS : S f args = none) (hi : F f = some i) (hm : i.mode = 2)
    (h : Ex (callN F S m) d out m i.body (FinX d out i.res v Q) ⟨args ++ List.replicate (i.ntmps - args.length) (.tuple []), own⟩) : ∃ own', callN F S (m + 1) d out ownV own id f args = some (.x, v, own') ∧ Q own' := by
  obtain ⟨o, st, h1, h2, h3, h4⟩ := h
  refine ⟨st.own, ?_, h4⟩
  simp only [callN, hS, hi, hm, if_true, lit_eq, h1]
  rcases h2 with rfl | rfl <;> simp only [ended, h3, Option.map_some]
end
theorem OwnJ.one {α : Type} {g : α → List IV} {sz d k0 : Nat} {J : List IObj} {lv : IV} {xs : List α} (h : OwnJ g sz d k0 J lv xs) : lv.cells = [lv] ∧ lv.scalar = true := by
  rcases h with ⟨_, rfl⟩ | ⟨b, _, rfl, _⟩ <;> exact ⟨rfl, rfl⟩
theorem res0 {d : Nat} {out : Nat → List IObj} {st : St} : resultI d out st [] = some (.tuple []) := Eq.trans rfl rfl
section
variable {S : FuncId → List IV → Option IV}
theorem clos_add (hS : NoS S) (s : Sv) (k : Int) (hv : FewVia s.pl) : ∃ N, ∀ m, N ≤ m → ∀ d out ownV id o1 o2 o3 J lv xs, OwnJ Pt.c 2 d 5 J lv xs → xs.length + 100002 ≤ 1073741824 →
    ∃ lv' J', callN Ftab S m d out ownV (.cells [s.pl.ns.v, s.pl.as.v, s.pl.fs.v, s.ft.v] :: o1 :: o2 :: o3 :: .cells [lv] :: J) id 22 [iv k, .ptrM d 0 0, .ptrM d 4 0] = some (.x, .tuple [], .cells [s.pl.ns.v, s.pl.as.v, s.pl.fs.v, s.ft.v] :: o1 :: o2 :: o3 :: .cells [lv'] :: J') ∧ OwnJ Pt.c 2 d 5 J' lv' (xs ++ pathP s.pl k) := by
  obtain ⟨q', hql, N, hN⟩ := gives_path hS s.pl k hv
  refine ⟨N + 3, fun m hm d out ownV id o1 o2 o3 J lv xs hO hx => ?_⟩
  obtain ⟨m, rfl⟩ : ∃ q, m = q + 1 := ⟨m - 1, by omega⟩
  have c1 := fun d out ownV own i => hN m (by omega) d out ownV own i
  simp only [iv_eq, Pn.c] at c1
  have hpl := pathP_le hv k
  have main : ∃ own', callN Ftab S (m + 1) d out ownV (.cells [s.pl.ns.v, s.pl.as.v, s.pl.fs.v, s.ft.v] :: o1 :: o2 :: o3 :: .cells [lv] :: J) id 22 [iv k, .ptrM d 0 0, .ptrM d 4 0] = some (.x, .tuple [], own') ∧ ∃ lv' J', own' = (.cells [s.pl.ns.v, s.pl.as.v, s.pl.fs.v, s.ft.v] :: o1 :: o2 :: o3 :: .cells [lv'] :: J') ∧ OwnJ Pt.c 2 d 5 J' lv' (xs ++ pathP s.pl k) := by
    refine gives_x (i := i22) (hS _ _ (by decide) (by decide) (by decide) (by decide)) rfl rfl ?_
    cases hp : pathOk s.pl k
    · have hz : pathP s.pl k = [] := by simp only [pathP, hp, cond_false]
      simp only [hp, cond_false] at c1
      simp only [i22, Wall, e_nilchk, e_pick, e_box, e_bslice, e_load, e_store, e_eqb, e_eqp, e_eqs, e_eqagg, e_conv, e_faddr, e_field, e_extract, e_call, e_mx, mkAt, List.replicate, List.cons_append, List.nil_append, List.append_nil, List.all_cons, List.all_nil, Bool.and_self, Bool.and_true, Bool.true_and, if_true, List.length_nil, List.length_cons, Nat.zero_add, Nat.add_zero, Nat.reduceAdd, Nat.reduceMul, Nat.reduceLeDiff, Nat.le_refl, and_self, and_true, true_and, List.getElem?_cons_zero, List.getElem?_cons_succ, look, mkv, Option.map_some, Option.map_none, Option.bind_some, Bool.false_eq_true, if_false, List.map_cons, List.map_nil, binI, intBin, isShift, unI, reduceCtorEq, fillI, Nat.reduceEqDiff, Int.ofNat_lt, decide_true, decide_false, beq_iff_eq, cellV, List.append_assoc, List.length_append, Bool.not_true, Bool.not_false, c1, zz7, FinX_normal, res0]
      exact ⟨lv, _, rfl, by rw [hz, List.append_nil]; exact hO.more _⟩
    · have hz : pathP s.pl k = pathL s.pl k := by simp only [pathP, hp, cond_true]
      rw [hz] at hpl
      simp only [hp, cond_true] at c1
      obtain ⟨e, lv', J2, happ, hO2⟩ := ownJ_app (Pre := [.cells [s.pl.ns.v, s.pl.as.v, s.pl.fs.v, s.ft.v], o1, o2, o3, .cells [lv]]) (n0 := J.length + 1 + 1 + 1 + 1 + 1 + 1) (slot := 0) (k := 1) (out := out) (R := [.free, .free]) Pt.c_len hO (ys := pathL s.pl k) (by simp [pathL]) (by omega) (by simp only [List.length_cons, List.length_nil]; omega) rfl pts_scal
      simp only [List.cons_append, List.nil_append] at happ
      obtain ⟨v1, v2⟩ := hO2.one
      simp only [i22, Wall, e_nilchk, e_pick, e_box, e_bslice, e_load, e_store, e_eqb, e_eqp, e_eqs, e_eqagg, e_conv, e_faddr, e_field, e_extract, e_call, e_mx, mkAt, List.replicate, List.cons_append, List.nil_append, List.append_nil, List.all_cons, List.all_nil, Bool.and_self, Bool.and_true, Bool.true_and, if_true, List.length_nil, List.length_cons, Nat.zero_add, Nat.add_zero, Nat.reduceAdd, Nat.reduceMul, Nat.reduceLeDiff, Nat.le_refl, and_self, and_true, true_and, List.getElem?_cons_zero, List.getElem?_cons_succ, look, mkv, Option.map_some, Option.map_none, Option.bind_some, Bool.false_eq_true, if_false, List.map_cons, List.map_nil, binI, intBin, isShift, unI, reduceCtorEq, fillI, Nat.reduceEqDiff, Int.ofNat_lt, decide_true, decide_false, beq_iff_eq, cellV, List.append_assoc, List.length_append, Bool.not_true, Bool.not_false, c1, zz0, ev_append, app_src, app_ok, cellsI_sl, hql hp, happ, v1, v2, FinX_normal, res0]
      exact ⟨lv', _, rfl, by rw [hz]; exact hO2⟩
  obtain ⟨own', h1, lv', J', rfl, h2⟩ := main
  exact ⟨lv', J', h1, h2⟩
end
end Go.Proofs.YtbfljfjjnijigaaGreatDoor
end
section
namespace Go.Proofs.YtbfljfjjnijigaaGreatDoor
open Go Go.RowKit
set_option maxRecDepth 100000
set_option maxHeartbeats 3200000
theorem unif {α : Type} {P : α → Nat → Prop} : ∀ (l : List α), (∀ x ∈ l, ∃ N, ∀ m, N ≤ m → P x m) → ∃ N, ∀ x ∈ l, ∀ m, N ≤ m → P x m
  | [], _ => ⟨0, fun x hx => by simp at hx⟩
  | y :: l, h => by
    obtain ⟨N1, h1⟩ := h y (List.mem_cons_self ..)
    obtain ⟨N2, h2⟩ := unif l fun x hx => h x (List.mem_cons_of_mem _ hx)
    refine ⟨N1 + N2, fun x hx m hm => ?_⟩
    rcases List.mem_cons.1 hx with rfl | hx
    · exact h1 m (by omega)
    · exact h2 x hx m (by omega)
def sideIn (f : Ft) (a : Ac) : Bool := f.parts.l.contains a.l || f.parts.l.contains a.r
def sideP (p : Pn) (f : Ft) (a : Ac) : List Pt := bif sideIn f a then pathP p a.id else []
def progPts (p : Pn) (f : Ft) : List Pt := bif shapeI f.kind == 1 then f.parts.l.flatMap (nodeP p) else bif shapeI f.kind == 2 then f.parts.l.flatMap (pathP p) else bif shapeI f.kind == 3 then p.as.l.flatMap (sideP p f) else []
theorem sideP_le {p : Pn} (h : FewVia p) (f : Ft) (a : Ac) : (sideP p f a).length ≤ 100002 := by
  unfold sideP
  cases sideIn f a
  · simp
  · exact pathP_le h _
theorem progPts_le {p : Pn} {f : Ft} (hv : FewVia p) (has : p.as.l.length ≤ 1000) (hpa : f.parts.l.length ≤ 1000) : (progPts p f).length ≤ 100002000 := by
  have h1 := flat_le (l := p.as.l) fun a _ => sideP_le hv f a
  have h2 := Nat.mul_le_mul_right 100002 has
  have h3 := flat_le (l := f.parts.l) fun a _ => nodeP_le p a
  have h4 := flat_le (l := f.parts.l) fun a _ => pathP_le hv a
  have h5 := Nat.mul_le_mul_right 100002 hpa
  unfold progPts
  cases shapeI f.kind == 1 <;> cases shapeI f.kind == 2 <;> cases shapeI f.kind == 3 <;> simp only [cond_false, cond_true, List.length_nil] <;> omega
section
variable {S : FuncId → List IV → Option IV}
theorem gives_bounds (hS : NoS S) (s : Sv) (id : Int) (hv : FewVia s.pl) (has : s.pl.as.l.length ≤ 1000) (hpa : ∀ f ∈ s.ft.l, f.parts.l.length ≤ 1000) :
    Gives Ftab S 8 [.agg s.c, iv id] (.tuple [.agg (boxP (bif findOk s id then progPts s.pl (findD s id) else [])).r, .bool (findOk s id && hasP (progPts s.pl (findD s id)))]) := by
  obtain ⟨q', hq', N1, hN1⟩ := gives_find hS s id (fun f hf => by have := hpa f hf; omega)
  have hq2 : q'.l = (findD s id).parts.l := hq'
  have hpd : q'.l.length ≤ 1000 := by
    rw [hq2]
    unfold findD
    cases hf : s.ft.l.find? fun f => f.id == id with
    | none => simp [zFt, nilS]
    | some f => exact hpa f (List.mem_of_find?_eq_some hf)
  have hple : (progPts s.pl (findD s id)).length ≤ 100002000 := progPts_le hv has (by rw [← hq2]; exact hpd)
  obtain ⟨N2, hN2⟩ := gives_shape hS (findD s id).kind
  obtain ⟨N3, hN3⟩ := gives_unif (f := 24) (a := fun x : Int => [.agg s.pl.c, iv x]) (v := fun x => .tuple [.agg (nodeD s.pl x).c, .bool (nodeF s.pl x).isSome]) q'.l fun x _ => gives_node hS s.pl x
  obtain ⟨N4, hN4⟩ := unif q'.l fun x _ => clos_add hS s x hv
  obtain ⟨N5, hN5⟩ := unif s.pl.as.l fun x _ => clos_add hS s x.id hv
  obtain ⟨N6, hN6⟩ := gives_unif (f := 25) (a := fun x : Ac => [q'.v, iv x.l]) (v := fun x => .bool (q'.l.contains x.l)) s.pl.as.l fun x _ => gives_contains hS q' x.l
  obtain ⟨N7, hN7⟩ := gives_unif (f := 25) (a := fun x : Ac => [q'.v, iv x.r]) (v := fun x => .bool (q'.l.contains x.r)) s.pl.as.l fun x _ => gives_contains hS q' x.r
  have e1 : ((s.ft.l.find? fun f => f.id == id).getD zFt) = findD s id := rfl
  have e2 : (s.ft.l.find? fun f => f.id == id).isSome = findOk s id := rfl
  refine gives_fz (i := i8) (hS _ _ (by decide) (by decide) (by decide) (by decide)) rfl rfl (bndR_fz _ _) (N1 + N2 + N3 + N4 + N5 + N6 + N7 + q'.l.length + s.pl.as.l.length + (progPts s.pl (findD s id)).length + 8) (by omega) fun m hm d out => ?_
  have c1 := fun d out ownV own i => hN1 m (by omega) d out ownV own i
  have c2 := fun d out ownV own i => hN2 m (by omega) d out ownV own i
  simp only [e1, e2, iv_eq, Sv.c, Ft.c] at c1 c2
  cases hok : findOk s id
  · simp only [hok] at c1
    simp only [i8, Wall, e_nilchk, e_pick, e_box, e_bslice, e_load, e_store, e_eqb, e_eqp, e_eqs, e_eqagg, e_conv, e_faddr, e_field, e_extract, e_call, e_mx, mkAt, List.replicate, List.cons_append, List.nil_append, List.append_nil, List.all_cons, List.all_nil, Bool.and_self, Bool.and_true, Bool.true_and, if_true, List.length_nil, List.length_cons, Nat.zero_add, Nat.add_zero, Nat.reduceAdd, Nat.reduceMul, Nat.reduceLeDiff, Nat.le_refl, and_self, and_true, true_and, List.getElem?_cons_zero, List.getElem?_cons_succ, look, mkv, Option.map_some, Option.map_none, Option.bind_some, Bool.false_eq_true, if_false, List.map_cons, List.map_nil, binI, intBin, isShift, unI, reduceCtorEq, fillI, Nat.reduceEqDiff, Int.ofNat_lt, decide_true, decide_false, beq_iff_eq, cellV, List.append_assoc, List.length_append, Bool.not_true, Bool.not_false, Sv.c, c1, cond_false, Bool.false_and, boxP, zBox, Bx.r]
  · simp only [hok] at c1
    simp only [cond_true, Bool.true_and]
    cases b1 : shapeI (findD s id).kind == 1
    · cases b2 : shapeI (findD s id).kind == 2
      · cases b3 : shapeI (findD s id).kind == 3
        · have hpp : progPts s.pl (findD s id) = [] := by simp only [progPts, b1, b2, b3, cond_false]
          simp only [i8, Wall, e_nilchk, e_pick, e_box, e_bslice, e_load, e_store, e_eqb, e_eqp, e_eqs, e_eqagg, e_conv, e_faddr, e_field, e_extract, e_call, e_mx, mkAt, List.replicate, List.cons_append, List.nil_append, List.append_nil, List.all_cons, List.all_nil, Bool.and_self, Bool.and_true, Bool.true_and, if_true, List.length_nil, List.length_cons, Nat.zero_add, Nat.add_zero, Nat.reduceAdd, Nat.reduceMul, Nat.reduceLeDiff, Nat.le_refl, and_self, and_true, true_and, List.getElem?_cons_zero, List.getElem?_cons_succ, look, mkv, Option.map_some, Option.map_none, Option.bind_some, Bool.false_eq_true, if_false, List.map_cons, List.map_nil, binI, intBin, isShift, unI, reduceCtorEq, fillI, Nat.reduceEqDiff, Int.ofNat_lt, decide_true, decide_false, beq_iff_eq, cellV, List.append_assoc, List.length_append, Bool.not_true, Bool.not_false, Sv.c, c1, c2, b1, b2, b3, zz0, hpp, boxP, zBox, Bx.r, hasP]
        · have hpp : progPts s.pl (findD s id) = s.pl.as.l.flatMap (sideP s.pl (findD s id)) := by simp only [progPts, b1, b2, b3, cond_false, cond_true]
          simp only [i8, Wall, e_nilchk, e_pick, e_box, e_bslice, e_load, e_store, e_eqb, e_eqp, e_eqs, e_eqagg, e_conv, e_faddr, e_field, e_extract, e_call, e_mx, mkAt, List.replicate, List.cons_append, List.nil_append, List.append_nil, List.all_cons, List.all_nil, Bool.and_self, Bool.and_true, Bool.true_and, if_true, List.length_nil, List.length_cons, Nat.zero_add, Nat.add_zero, Nat.reduceAdd, Nat.reduceMul, Nat.reduceLeDiff, Nat.le_refl, and_self, and_true, true_and, List.getElem?_cons_zero, List.getElem?_cons_succ, look, mkv, Option.map_some, Option.map_none, Option.bind_some, Bool.false_eq_true, if_false, List.map_cons, List.map_nil, binI, intBin, isShift, unI, reduceCtorEq, fillI, Nat.reduceEqDiff, Int.ofNat_lt, decide_true, decide_false, beq_iff_eq, cellV, List.append_assoc, List.length_append, Bool.not_true, Bool.not_false, Sv.c, c1, c2, b1, b2, b3]
          refine ex_rounds (fun j st => ∃ i J lv, j = s.pl.as.l.length - i ∧ i ≤ s.pl.as.l.length ∧ OwnJ Pt.c 2 d 5 J lv ((s.pl.as.l.take i).flatMap (sideP s.pl (findD s id))) ∧ st.t.length = 99 ∧ getK (.tuple []) st.t 2 = .ptrM d 0 0 ∧ getK (.tuple []) st.t 4 = .ptrM d 1 0 ∧ getK (.tuple []) st.t 5 = .bool true ∧ getK (.tuple []) st.t 6 = .ptrM d 3 0 ∧ getK (.tuple []) st.t 7 = .ptrM d 4 0 ∧ getK (.tuple []) st.t 8 = .fn 22 [] [.ptrM d 0 0, .ptrM d 4 0] ∧ getK (.tuple []) st.t 70 = s.pl.as.v ∧ getK (.tuple []) st.t 71 = iv (s.pl.as.l.length : Nat) ∧ getK (.tuple []) st.t 72 = iv i ∧ st.own = .cells [s.pl.ns.v, s.pl.as.v, s.pl.fs.v, s.ft.v] :: .cells [.int .i64 0, .int .i64 0, .int .i64 0, .int .i64 0] :: .free :: .cells [.int .i64 (findD s id).id, .int .i64 (findD s id).kind, .int .i64 (findD s id).cls, .str (findD s id).name.1, q'.v] :: .cells [lv] :: J) s.pl.as.l.length (by omega) ⟨0, [.free], .nilsl, by omega, by omega, .inl ⟨rfl, rfl⟩, rfl, rfl, rfl, rfl, rfl, rfl, rfl, rfl, rfl, rfl, rfl⟩ ?_
          rintro j ⟨t, own⟩ K ⟨i, J, lv, rfl, hi, hO, hl, k2, k4, k5, k6, k7, k8, k70, k71, k72, ho⟩ hn he hr
          dsimp only at hl k2 k4 k5 k6 k7 k8 k70 k71 k72 ho
          have ht : t = [getK (.tuple []) t 0, getK (.tuple []) t 1, getK (.tuple []) t 2, getK (.tuple []) t 3, getK (.tuple []) t 4, getK (.tuple []) t 5, getK (.tuple []) t 6, getK (.tuple []) t 7, getK (.tuple []) t 8, getK (.tuple []) t 9, getK (.tuple []) t 10, getK (.tuple []) t 11, getK (.tuple []) t 12, getK (.tuple []) t 13, getK (.tuple []) t 14, getK (.tuple []) t 15, getK (.tuple []) t 16, getK (.tuple []) t 17, getK (.tuple []) t 18, getK (.tuple []) t 19, getK (.tuple []) t 20, getK (.tuple []) t 21, getK (.tuple []) t 22, getK (.tuple []) t 23, getK (.tuple []) t 24, getK (.tuple []) t 25, getK (.tuple []) t 26, getK (.tuple []) t 27, getK (.tuple []) t 28, getK (.tuple []) t 29, getK (.tuple []) t 30, getK (.tuple []) t 31, getK (.tuple []) t 32, getK (.tuple []) t 33, getK (.tuple []) t 34, getK (.tuple []) t 35, getK (.tuple []) t 36, getK (.tuple []) t 37, getK (.tuple []) t 38, getK (.tuple []) t 39, getK (.tuple []) t 40, getK (.tuple []) t 41, getK (.tuple []) t 42, getK (.tuple []) t 43, getK (.tuple []) t 44, getK (.tuple []) t 45, getK (.tuple []) t 46, getK (.tuple []) t 47, getK (.tuple []) t 48, getK (.tuple []) t 49, getK (.tuple []) t 50, getK (.tuple []) t 51, getK (.tuple []) t 52, getK (.tuple []) t 53, getK (.tuple []) t 54, getK (.tuple []) t 55, getK (.tuple []) t 56, getK (.tuple []) t 57, getK (.tuple []) t 58, getK (.tuple []) t 59, getK (.tuple []) t 60, getK (.tuple []) t 61, getK (.tuple []) t 62, getK (.tuple []) t 63, getK (.tuple []) t 64, getK (.tuple []) t 65, getK (.tuple []) t 66, getK (.tuple []) t 67, getK (.tuple []) t 68, getK (.tuple []) t 69, getK (.tuple []) t 70, getK (.tuple []) t 71, getK (.tuple []) t 72, getK (.tuple []) t 73, getK (.tuple []) t 74, getK (.tuple []) t 75, getK (.tuple []) t 76, getK (.tuple []) t 77, getK (.tuple []) t 78, getK (.tuple []) t 79, getK (.tuple []) t 80, getK (.tuple []) t 81, getK (.tuple []) t 82, getK (.tuple []) t 83, getK (.tuple []) t 84, getK (.tuple []) t 85, getK (.tuple []) t 86, getK (.tuple []) t 87, getK (.tuple []) t 88, getK (.tuple []) t 89, getK (.tuple []) t 90, getK (.tuple []) t 91, getK (.tuple []) t 92, getK (.tuple []) t 93, getK (.tuple []) t 94, getK (.tuple []) t 95, getK (.tuple []) t 96, getK (.tuple []) t 97, getK (.tuple []) t 98] := expand_t hl
          simp only [k2, k4, k5, k6, k7, k8, k70, k71, k72] at ht
          generalize getK (.tuple []) t = r at ht
          subst ht
          subst ho
          by_cases h : i < s.pl.as.l.length
          · have hx : s.pl.as.l[i]? = some s.pl.as.l[i] := List.getElem?_eq_getElem h
            generalize s.pl.as.l[i] = x at hx
            have hmem := List.mem_of_getElem? hx
            have hrd : rdN (s.pl.as.l.flatMap Ac.c) (i * 6) 6 = some x.c := (rdN_flat Ac.c_len 0 6 hx (by omega)).trans rfl
            have hw : wrapI .i64 ((i : Int) + 1) = ((i + 1 : Nat) : Int) := wrap_succ (by have := s.pl.as.few; omega)
            have c6 := fun d out ownV own i => hN6 x hmem m (by omega) d out ownV own i
            have c7 := fun d out ownV own i => hN7 x hmem m (by omega) d out ownV own i
            simp only [iv_eq] at c6 c7
            have hnx := take_flat (g := sideP s.pl (findD s id)) hx
            have hle : ((s.pl.as.l.take i).flatMap (sideP s.pl (findD s id))).length ≤ 1000 * 100002 := by
              refine Nat.le_trans (flat_le fun a _ => sideP_le hv _ a) (Nat.mul_le_mul_right _ ?_)
              rw [List.length_take]
              omega
            have hcl := hN5 x hmem m (by omega) d out (.cells [s.pl.ns.v, s.pl.as.v, s.pl.fs.v, s.ft.v] :: .cells [.int .i64 0, .int .i64 0, .int .i64 0, .int .i64 0] :: .free :: .cells [.int .i64 (findD s id).id, .int .i64 (findD s id).kind, .int .i64 (findD s id).cls, .str (findD s id).name.1, q'.v] :: .cells [lv] :: (J ++ [.cells [.int .i64 x.id, .int .i64 x.fr, .int .i64 x.to, x.via.v, .int .i64 x.l, .int .i64 x.r], .free, .free, .free])) (J.length + 3 + 1 + 1 + 1 + 1 + 1) (.cells [.int .i64 0, .int .i64 0, .int .i64 0, .int .i64 0]) .free (.cells [.int .i64 (findD s id).id, .int .i64 (findD s id).kind, .int .i64 (findD s id).cls, .str (findD s id).name.1, q'.v]) (J ++ [.cells [.int .i64 x.id, .int .i64 x.fr, .int .i64 x.to, x.via.v, .int .i64 x.l, .int .i64 x.r], .free, .free, .free]) lv _ (hO.more _) (by omega)
            obtain ⟨lv', J', hcall, hO2⟩ := hcl
            simp only [iv_eq] at hcall
            cases bl : q'.l.contains x.l
            · cases br : q'.l.contains x.r
              · have hz : sideP s.pl (findD s id) x = [] := by simp only [sideP, sideIn, ← hq2, bl, br, Bool.or_self, cond_false]
                simp only [Wall, e_nilchk, e_pick, e_box, e_bslice, e_load, e_store, e_eqb, e_eqp, e_eqs, e_eqagg, e_conv, e_faddr, e_field, e_extract, e_call, e_mx, mkAt, List.replicate, List.cons_append, List.nil_append, List.append_nil, List.all_cons, List.all_nil, Bool.and_self, Bool.and_true, Bool.true_and, if_true, List.length_nil, List.length_cons, Nat.zero_add, Nat.add_zero, Nat.reduceAdd, Nat.reduceMul, Nat.reduceLeDiff, Nat.le_refl, and_self, and_true, true_and, List.getElem?_cons_zero, List.getElem?_cons_succ, look, mkv, Option.map_some, Option.map_none, Option.bind_some, Bool.false_eq_true, if_false, List.map_cons, List.map_nil, binI, intBin, isShift, unI, reduceCtorEq, fillI, Nat.reduceEqDiff, Int.ofNat_lt, decide_true, decide_false, beq_iff_eq, cellV, List.append_assoc, List.length_append, Bool.not_true, Bool.not_false, h, iaddrV_sl s.pl.as h, hrd, Ac.c, c6, c7, bl, br, hw]
                exact hn _ (s.pl.as.l.length - (i + 1)) (by omega) ⟨i + 1, _, lv, rfl, by omega, by rw [hnx, hz, List.append_nil]; exact hO.more _, rfl, rfl, rfl, rfl, rfl, rfl, rfl, rfl, rfl, rfl, rfl⟩
              · have hz : sideP s.pl (findD s id) x = pathP s.pl x.id := by simp only [sideP, sideIn, ← hq2, bl, br, Bool.or_true, cond_true]
                simp only [Wall, e_nilchk, e_pick, e_box, e_bslice, e_load, e_store, e_eqb, e_eqp, e_eqs, e_eqagg, e_conv, e_faddr, e_field, e_extract, e_call, e_mx, mkAt, List.replicate, List.cons_append, List.nil_append, List.append_nil, List.all_cons, List.all_nil, Bool.and_self, Bool.and_true, Bool.true_and, if_true, List.length_nil, List.length_cons, Nat.zero_add, Nat.add_zero, Nat.reduceAdd, Nat.reduceMul, Nat.reduceLeDiff, Nat.le_refl, and_self, and_true, true_and, List.getElem?_cons_zero, List.getElem?_cons_succ, look, mkv, Option.map_some, Option.map_none, Option.bind_some, Bool.false_eq_true, if_false, List.map_cons, List.map_nil, binI, intBin, isShift, unI, reduceCtorEq, fillI, Nat.reduceEqDiff, Int.ofNat_lt, decide_true, decide_false, beq_iff_eq, cellV, List.append_assoc, List.length_append, Bool.not_true, Bool.not_false, h, iaddrV_sl s.pl.as h, hrd, Ac.c, c6, c7, bl, br, hw, hcall]
                exact hn _ (s.pl.as.l.length - (i + 1)) (by omega) ⟨i + 1, J', lv', rfl, by omega, by rw [hnx, hz]; exact hO2, rfl, rfl, rfl, rfl, rfl, rfl, rfl, rfl, rfl, rfl, rfl⟩
            · have hz : sideP s.pl (findD s id) x = pathP s.pl x.id := by simp only [sideP, sideIn, ← hq2, bl, Bool.true_or, cond_true]
              simp only [Wall, e_nilchk, e_pick, e_box, e_bslice, e_load, e_store, e_eqb, e_eqp, e_eqs, e_eqagg, e_conv, e_faddr, e_field, e_extract, e_call, e_mx, mkAt, List.replicate, List.cons_append, List.nil_append, List.append_nil, List.all_cons, List.all_nil, Bool.and_self, Bool.and_true, Bool.true_and, if_true, List.length_nil, List.length_cons, Nat.zero_add, Nat.add_zero, Nat.reduceAdd, Nat.reduceMul, Nat.reduceLeDiff, Nat.le_refl, and_self, and_true, true_and, List.getElem?_cons_zero, List.getElem?_cons_succ, look, mkv, Option.map_some, Option.map_none, Option.bind_some, Bool.false_eq_true, if_false, List.map_cons, List.map_nil, binI, intBin, isShift, unI, reduceCtorEq, fillI, Nat.reduceEqDiff, Int.ofNat_lt, decide_true, decide_false, beq_iff_eq, cellV, List.append_assoc, List.length_append, Bool.not_true, Bool.not_false, h, iaddrV_sl s.pl.as h, hrd, Ac.c, c6, c7, bl, hw, hcall]
              exact hn _ (s.pl.as.l.length - (i + 1)) (by omega) ⟨i + 1, J', lv', rfl, by omega, by rw [hnx, hz]; exact hO2, rfl, rfl, rfl, rfl, rfl, rfl, rfl, rfl, rfl, rfl, rfl⟩
          · simp only [Wall, e_nilchk, e_pick, e_box, e_bslice, e_load, e_store, e_eqb, e_eqp, e_eqs, e_eqagg, e_conv, e_faddr, e_field, e_extract, e_call, e_mx, mkAt, List.replicate, List.cons_append, List.nil_append, List.append_nil, List.all_cons, List.all_nil, Bool.and_self, Bool.and_true, Bool.true_and, if_true, List.length_nil, List.length_cons, Nat.zero_add, Nat.add_zero, Nat.reduceAdd, Nat.reduceMul, Nat.reduceLeDiff, Nat.le_refl, and_self, and_true, true_and, List.getElem?_cons_zero, List.getElem?_cons_succ, look, mkv, Option.map_some, Option.map_none, Option.bind_some, Bool.false_eq_true, if_false, List.map_cons, List.map_nil, binI, intBin, isShift, unI, reduceCtorEq, fillI, Nat.reduceEqDiff, Int.ofNat_lt, decide_true, decide_false, beq_iff_eq, cellV, List.append_assoc, List.length_append, Bool.not_true, Bool.not_false, h]
            refine he _ _ ?_
            rw [List.take_of_length_le (by omega), ← hpp] at hO
            rcases hO with ⟨hxs, rfl⟩ | ⟨b, hxs, rfl, hb⟩
            · simp only [Wall, e_nilchk, e_pick, e_box, e_bslice, e_load, e_store, e_eqb, e_eqp, e_eqs, e_eqagg, e_conv, e_faddr, e_field, e_extract, e_call, e_mx, mkAt, List.replicate, List.cons_append, List.nil_append, List.append_nil, List.all_cons, List.all_nil, Bool.and_self, Bool.and_true, Bool.true_and, if_true, List.length_nil, List.length_cons, Nat.zero_add, Nat.add_zero, Nat.reduceAdd, Nat.reduceMul, Nat.reduceLeDiff, Nat.le_refl, and_self, and_true, true_and, List.getElem?_cons_zero, List.getElem?_cons_succ, look, mkv, Option.map_some, Option.map_none, Option.bind_some, Bool.false_eq_true, if_false, List.map_cons, List.map_nil, binI, intBin, isShift, unI, reduceCtorEq, fillI, Nat.reduceEqDiff, Int.ofNat_lt, decide_true, decide_false, beq_iff_eq, cellV, List.append_assoc, List.length_append, Bool.not_true, Bool.not_false, zz0, Bx.r]
              rw [hxs]
              rfl
            · obtain ⟨p0, tl, hpt⟩ : ∃ p0 tl, progPts s.pl (findD s id) = p0 :: tl := by
                cases hh : progPts s.pl (findD s id) with
                | nil => exact absurd hh hxs
                | cons p0 tl => exact ⟨p0, tl, rfl⟩
              have hz : (((progPts s.pl (findD s id)).length : Int) == 0) = false := by
                rw [beq_eq_false_iff_ne, hpt]
                simp only [List.length_cons]
                omega
              have hring := fun own hob => ring_own hS (progPts s.pl (findD s id)) p0 (by rw [hpt]; rfl) (by omega) m (by omega) d out own own (J.length + 1 + 1 + 1 + 1 + 1) (5 + b) hob
              have hring2 := hring (.cells [s.pl.ns.v, s.pl.as.v, s.pl.fs.v, s.ft.v] :: .cells [.int .i64 0, .int .i64 0, .int .i64 0, .int .i64 0] :: .free :: .cells [.int .i64 (findD s id).id, .int .i64 (findD s id).kind, .int .i64 (findD s id).cls, .str (findD s id).name.1, q'.v] :: .cells [.slM d (5 + b) 0 (progPts s.pl (findD s id)).length (progPts s.pl (findD s id)).length 2 false] :: (J ++ [.free])) (by
                rw [show 5 + b = b + 1 + 1 + 1 + 1 + 1 by omega]
                simp only [List.getElem?_cons_succ]
                rw [List.getElem?_append_left (List.getElem?_eq_some_iff.1 hb).1]
                exact hb)
              simp only [Wall, e_nilchk, e_pick, e_box, e_bslice, e_load, e_store, e_eqb, e_eqp, e_eqs, e_eqagg, e_conv, e_faddr, e_field, e_extract, e_call, e_mx, mkAt, List.replicate, List.cons_append, List.nil_append, List.append_nil, List.all_cons, List.all_nil, Bool.and_self, Bool.and_true, Bool.true_and, if_true, List.length_nil, List.length_cons, Nat.zero_add, Nat.add_zero, Nat.reduceAdd, Nat.reduceMul, Nat.reduceLeDiff, Nat.le_refl, and_self, and_true, true_and, List.getElem?_cons_zero, List.getElem?_cons_succ, look, mkv, Option.map_some, Option.map_none, Option.bind_some, Bool.false_eq_true, if_false, List.map_cons, List.map_nil, binI, intBin, isShift, unI, reduceCtorEq, fillI, Nat.reduceEqDiff, Int.ofNat_lt, decide_true, decide_false, beq_iff_eq, cellV, List.append_assoc, List.length_append, Bool.not_true, Bool.not_false, hz, hring2, Bx.r]
              rw [hpt]
              rfl
      · have hpp : progPts s.pl (findD s id) = q'.l.flatMap (pathP s.pl) := by simp only [progPts, b1, b2, cond_false, cond_true, hq2]
        simp only [i8, Wall, e_nilchk, e_pick, e_box, e_bslice, e_load, e_store, e_eqb, e_eqp, e_eqs, e_eqagg, e_conv, e_faddr, e_field, e_extract, e_call, e_mx, mkAt, List.replicate, List.cons_append, List.nil_append, List.append_nil, List.all_cons, List.all_nil, Bool.and_self, Bool.and_true, Bool.true_and, if_true, List.length_nil, List.length_cons, Nat.zero_add, Nat.add_zero, Nat.reduceAdd, Nat.reduceMul, Nat.reduceLeDiff, Nat.le_refl, and_self, and_true, true_and, List.getElem?_cons_zero, List.getElem?_cons_succ, look, mkv, Option.map_some, Option.map_none, Option.bind_some, Bool.false_eq_true, if_false, List.map_cons, List.map_nil, binI, intBin, isShift, unI, reduceCtorEq, fillI, Nat.reduceEqDiff, Int.ofNat_lt, decide_true, decide_false, beq_iff_eq, cellV, List.append_assoc, List.length_append, Bool.not_true, Bool.not_false, Sv.c, c1, c2, b1, b2]
        refine ex_rounds (fun j st => ∃ i J lv, j = q'.l.length - i ∧ i ≤ q'.l.length ∧ OwnJ Pt.c 2 d 5 J lv ((q'.l.take i).flatMap (pathP s.pl)) ∧ st.t.length = 99 ∧ getK (.tuple []) st.t 2 = .ptrM d 0 0 ∧ getK (.tuple []) st.t 4 = .ptrM d 1 0 ∧ getK (.tuple []) st.t 5 = .bool true ∧ getK (.tuple []) st.t 6 = .ptrM d 3 0 ∧ getK (.tuple []) st.t 7 = .ptrM d 4 0 ∧ getK (.tuple []) st.t 8 = .fn 22 [] [.ptrM d 0 0, .ptrM d 4 0] ∧ getK (.tuple []) st.t 56 = q'.v ∧ getK (.tuple []) st.t 57 = iv (q'.l.length : Nat) ∧ getK (.tuple []) st.t 58 = iv i ∧ st.own = .cells [s.pl.ns.v, s.pl.as.v, s.pl.fs.v, s.ft.v] :: .cells [.int .i64 0, .int .i64 0, .int .i64 0, .int .i64 0] :: .free :: .cells [.int .i64 (findD s id).id, .int .i64 (findD s id).kind, .int .i64 (findD s id).cls, .str (findD s id).name.1, q'.v] :: .cells [lv] :: J) q'.l.length (by omega) ⟨0, [.free], .nilsl, by omega, by omega, .inl ⟨rfl, rfl⟩, rfl, rfl, rfl, rfl, rfl, rfl, rfl, rfl, rfl, rfl, rfl⟩ ?_
        rintro j ⟨t, own⟩ K ⟨i, J, lv, rfl, hi, hO, hl, k2, k4, k5, k6, k7, k8, k56, k57, k58, ho⟩ hn he hr
        dsimp only at hl k2 k4 k5 k6 k7 k8 k56 k57 k58 ho
        have ht : t = [getK (.tuple []) t 0, getK (.tuple []) t 1, getK (.tuple []) t 2, getK (.tuple []) t 3, getK (.tuple []) t 4, getK (.tuple []) t 5, getK (.tuple []) t 6, getK (.tuple []) t 7, getK (.tuple []) t 8, getK (.tuple []) t 9, getK (.tuple []) t 10, getK (.tuple []) t 11, getK (.tuple []) t 12, getK (.tuple []) t 13, getK (.tuple []) t 14, getK (.tuple []) t 15, getK (.tuple []) t 16, getK (.tuple []) t 17, getK (.tuple []) t 18, getK (.tuple []) t 19, getK (.tuple []) t 20, getK (.tuple []) t 21, getK (.tuple []) t 22, getK (.tuple []) t 23, getK (.tuple []) t 24, getK (.tuple []) t 25, getK (.tuple []) t 26, getK (.tuple []) t 27, getK (.tuple []) t 28, getK (.tuple []) t 29, getK (.tuple []) t 30, getK (.tuple []) t 31, getK (.tuple []) t 32, getK (.tuple []) t 33, getK (.tuple []) t 34, getK (.tuple []) t 35, getK (.tuple []) t 36, getK (.tuple []) t 37, getK (.tuple []) t 38, getK (.tuple []) t 39, getK (.tuple []) t 40, getK (.tuple []) t 41, getK (.tuple []) t 42, getK (.tuple []) t 43, getK (.tuple []) t 44, getK (.tuple []) t 45, getK (.tuple []) t 46, getK (.tuple []) t 47, getK (.tuple []) t 48, getK (.tuple []) t 49, getK (.tuple []) t 50, getK (.tuple []) t 51, getK (.tuple []) t 52, getK (.tuple []) t 53, getK (.tuple []) t 54, getK (.tuple []) t 55, getK (.tuple []) t 56, getK (.tuple []) t 57, getK (.tuple []) t 58, getK (.tuple []) t 59, getK (.tuple []) t 60, getK (.tuple []) t 61, getK (.tuple []) t 62, getK (.tuple []) t 63, getK (.tuple []) t 64, getK (.tuple []) t 65, getK (.tuple []) t 66, getK (.tuple []) t 67, getK (.tuple []) t 68, getK (.tuple []) t 69, getK (.tuple []) t 70, getK (.tuple []) t 71, getK (.tuple []) t 72, getK (.tuple []) t 73, getK (.tuple []) t 74, getK (.tuple []) t 75, getK (.tuple []) t 76, getK (.tuple []) t 77, getK (.tuple []) t 78, getK (.tuple []) t 79, getK (.tuple []) t 80, getK (.tuple []) t 81, getK (.tuple []) t 82, getK (.tuple []) t 83, getK (.tuple []) t 84, getK (.tuple []) t 85, getK (.tuple []) t 86, getK (.tuple []) t 87, getK (.tuple []) t 88, getK (.tuple []) t 89, getK (.tuple []) t 90, getK (.tuple []) t 91, getK (.tuple []) t 92, getK (.tuple []) t 93, getK (.tuple []) t 94, getK (.tuple []) t 95, getK (.tuple []) t 96, getK (.tuple []) t 97, getK (.tuple []) t 98] := expand_t hl
        simp only [k2, k4, k5, k6, k7, k8, k56, k57, k58] at ht
        generalize getK (.tuple []) t = r at ht
        subst ht
        subst ho
        by_cases h : i < q'.l.length
        · have hx : q'.l[i]? = some q'.l[i] := List.getElem?_eq_getElem h
          generalize q'.l[i] = x at hx
          have hmem := List.mem_of_getElem? hx
          have hrd : rdN (q'.l.flatMap intc) (i * 1) 1 = some [iv x] := rdN_flat intc_len 0 1 hx (by omega)
          have hw : wrapI .i64 ((i : Int) + 1) = ((i + 1 : Nat) : Int) := wrap_succ (by have := q'.few; omega)
          have hnx := take_flat (g := pathP s.pl) hx
          have hle : ((q'.l.take i).flatMap (pathP s.pl)).length ≤ 1000 * 100002 := by
            refine Nat.le_trans (flat_le fun a _ => pathP_le hv a) (Nat.mul_le_mul_right _ ?_)
            rw [List.length_take]
            omega
          have hcl := hN4 x hmem m (by omega) d out (.cells [s.pl.ns.v, s.pl.as.v, s.pl.fs.v, s.ft.v] :: .cells [.int .i64 0, .int .i64 0, .int .i64 0, .int .i64 0] :: .free :: .cells [.int .i64 (findD s id).id, .int .i64 (findD s id).kind, .int .i64 (findD s id).cls, .str (findD s id).name.1, q'.v] :: .cells [lv] :: (J ++ [.free])) (J.length + 1 + 1 + 1 + 1 + 1) (.cells [.int .i64 0, .int .i64 0, .int .i64 0, .int .i64 0]) .free (.cells [.int .i64 (findD s id).id, .int .i64 (findD s id).kind, .int .i64 (findD s id).cls, .str (findD s id).name.1, q'.v]) (J ++ [.free]) lv _ (hO.more _) (by omega)
          obtain ⟨lv', J', hcall, hO2⟩ := hcl
          simp only [iv_eq] at hcall
          simp only [Wall, e_nilchk, e_pick, e_box, e_bslice, e_load, e_store, e_eqb, e_eqp, e_eqs, e_eqagg, e_conv, e_faddr, e_field, e_extract, e_call, e_mx, mkAt, List.replicate, List.cons_append, List.nil_append, List.append_nil, List.all_cons, List.all_nil, Bool.and_self, Bool.and_true, Bool.true_and, if_true, List.length_nil, List.length_cons, Nat.zero_add, Nat.add_zero, Nat.reduceAdd, Nat.reduceMul, Nat.reduceLeDiff, Nat.le_refl, and_self, and_true, true_and, List.getElem?_cons_zero, List.getElem?_cons_succ, look, mkv, Option.map_some, Option.map_none, Option.bind_some, Bool.false_eq_true, if_false, List.map_cons, List.map_nil, binI, intBin, isShift, unI, reduceCtorEq, fillI, Nat.reduceEqDiff, Int.ofNat_lt, decide_true, decide_false, beq_iff_eq, cellV, List.append_assoc, List.length_append, Bool.not_true, Bool.not_false, h, iaddrV_sl q' h, hrd, hw, hcall]
          exact hn _ (q'.l.length - (i + 1)) (by omega) ⟨i + 1, J', lv', rfl, by omega, by rw [hnx]; exact hO2, rfl, rfl, rfl, rfl, rfl, rfl, rfl, rfl, rfl, rfl, rfl⟩
        · simp only [Wall, e_nilchk, e_pick, e_box, e_bslice, e_load, e_store, e_eqb, e_eqp, e_eqs, e_eqagg, e_conv, e_faddr, e_field, e_extract, e_call, e_mx, mkAt, List.replicate, List.cons_append, List.nil_append, List.append_nil, List.all_cons, List.all_nil, Bool.and_self, Bool.and_true, Bool.true_and, if_true, List.length_nil, List.length_cons, Nat.zero_add, Nat.add_zero, Nat.reduceAdd, Nat.reduceMul, Nat.reduceLeDiff, Nat.le_refl, and_self, and_true, true_and, List.getElem?_cons_zero, List.getElem?_cons_succ, look, mkv, Option.map_some, Option.map_none, Option.bind_some, Bool.false_eq_true, if_false, List.map_cons, List.map_nil, binI, intBin, isShift, unI, reduceCtorEq, fillI, Nat.reduceEqDiff, Int.ofNat_lt, decide_true, decide_false, beq_iff_eq, cellV, List.append_assoc, List.length_append, Bool.not_true, Bool.not_false, h]
          refine he _ _ ?_
          rw [List.take_of_length_le (by omega), ← hpp] at hO
          rcases hO with ⟨hxs, rfl⟩ | ⟨b, hxs, rfl, hb⟩
          · simp only [Wall, e_nilchk, e_pick, e_box, e_bslice, e_load, e_store, e_eqb, e_eqp, e_eqs, e_eqagg, e_conv, e_faddr, e_field, e_extract, e_call, e_mx, mkAt, List.replicate, List.cons_append, List.nil_append, List.append_nil, List.all_cons, List.all_nil, Bool.and_self, Bool.and_true, Bool.true_and, if_true, List.length_nil, List.length_cons, Nat.zero_add, Nat.add_zero, Nat.reduceAdd, Nat.reduceMul, Nat.reduceLeDiff, Nat.le_refl, and_self, and_true, true_and, List.getElem?_cons_zero, List.getElem?_cons_succ, look, mkv, Option.map_some, Option.map_none, Option.bind_some, Bool.false_eq_true, if_false, List.map_cons, List.map_nil, binI, intBin, isShift, unI, reduceCtorEq, fillI, Nat.reduceEqDiff, Int.ofNat_lt, decide_true, decide_false, beq_iff_eq, cellV, List.append_assoc, List.length_append, Bool.not_true, Bool.not_false, zz0, Bx.r]
            rw [hxs]
            rfl
          · obtain ⟨p0, tl, hpt⟩ : ∃ p0 tl, progPts s.pl (findD s id) = p0 :: tl := by
              cases hh : progPts s.pl (findD s id) with
              | nil => exact absurd hh hxs
              | cons p0 tl => exact ⟨p0, tl, rfl⟩
            have hz : (((progPts s.pl (findD s id)).length : Int) == 0) = false := by
              rw [beq_eq_false_iff_ne, hpt]
              simp only [List.length_cons]
              omega
            have hring := fun own hob => ring_own hS (progPts s.pl (findD s id)) p0 (by rw [hpt]; rfl) (by omega) m (by omega) d out own own (J.length + 1 + 1 + 1 + 1 + 1) (5 + b) hob
            have hring2 := hring (.cells [s.pl.ns.v, s.pl.as.v, s.pl.fs.v, s.ft.v] :: .cells [.int .i64 0, .int .i64 0, .int .i64 0, .int .i64 0] :: .free :: .cells [.int .i64 (findD s id).id, .int .i64 (findD s id).kind, .int .i64 (findD s id).cls, .str (findD s id).name.1, q'.v] :: .cells [.slM d (5 + b) 0 (progPts s.pl (findD s id)).length (progPts s.pl (findD s id)).length 2 false] :: (J ++ [.free])) (by
              rw [show 5 + b = b + 1 + 1 + 1 + 1 + 1 by omega]
              simp only [List.getElem?_cons_succ]
              rw [List.getElem?_append_left (List.getElem?_eq_some_iff.1 hb).1]
              exact hb)
            simp only [Wall, e_nilchk, e_pick, e_box, e_bslice, e_load, e_store, e_eqb, e_eqp, e_eqs, e_eqagg, e_conv, e_faddr, e_field, e_extract, e_call, e_mx, mkAt, List.replicate, List.cons_append, List.nil_append, List.append_nil, List.all_cons, List.all_nil, Bool.and_self, Bool.and_true, Bool.true_and, if_true, List.length_nil, List.length_cons, Nat.zero_add, Nat.add_zero, Nat.reduceAdd, Nat.reduceMul, Nat.reduceLeDiff, Nat.le_refl, and_self, and_true, true_and, List.getElem?_cons_zero, List.getElem?_cons_succ, look, mkv, Option.map_some, Option.map_none, Option.bind_some, Bool.false_eq_true, if_false, List.map_cons, List.map_nil, binI, intBin, isShift, unI, reduceCtorEq, fillI, Nat.reduceEqDiff, Int.ofNat_lt, decide_true, decide_false, beq_iff_eq, cellV, List.append_assoc, List.length_append, Bool.not_true, Bool.not_false, hz, hring2, Bx.r]
            rw [hpt]
            rfl
    · have hpp : progPts s.pl (findD s id) = q'.l.flatMap (nodeP s.pl) := by simp only [progPts, b1, cond_true, hq2]
      simp only [i8, Wall, e_nilchk, e_pick, e_box, e_bslice, e_load, e_store, e_eqb, e_eqp, e_eqs, e_eqagg, e_conv, e_faddr, e_field, e_extract, e_call, e_mx, mkAt, List.replicate, List.cons_append, List.nil_append, List.append_nil, List.all_cons, List.all_nil, Bool.and_self, Bool.and_true, Bool.true_and, if_true, List.length_nil, List.length_cons, Nat.zero_add, Nat.add_zero, Nat.reduceAdd, Nat.reduceMul, Nat.reduceLeDiff, Nat.le_refl, and_self, and_true, true_and, List.getElem?_cons_zero, List.getElem?_cons_succ, look, mkv, Option.map_some, Option.map_none, Option.bind_some, Bool.false_eq_true, if_false, List.map_cons, List.map_nil, binI, intBin, isShift, unI, reduceCtorEq, fillI, Nat.reduceEqDiff, Int.ofNat_lt, decide_true, decide_false, beq_iff_eq, cellV, List.append_assoc, List.length_append, Bool.not_true, Bool.not_false, Sv.c, c1, c2, b1]
      refine ex_rounds (fun j st => ∃ i J lv, j = q'.l.length - i ∧ i ≤ q'.l.length ∧ OwnJ Pt.c 2 d 5 J lv ((q'.l.take i).flatMap (nodeP s.pl)) ∧ st.t.length = 99 ∧ getK (.tuple []) st.t 2 = .ptrM d 0 0 ∧ getK (.tuple []) st.t 4 = .ptrM d 1 0 ∧ getK (.tuple []) st.t 5 = .bool true ∧ getK (.tuple []) st.t 6 = .ptrM d 3 0 ∧ getK (.tuple []) st.t 7 = .ptrM d 4 0 ∧ getK (.tuple []) st.t 33 = q'.v ∧ getK (.tuple []) st.t 34 = iv (q'.l.length : Nat) ∧ getK (.tuple []) st.t 35 = iv i ∧ st.own = .cells [s.pl.ns.v, s.pl.as.v, s.pl.fs.v, s.ft.v] :: .cells [.int .i64 0, .int .i64 0, .int .i64 0, .int .i64 0] :: .free :: .cells [.int .i64 (findD s id).id, .int .i64 (findD s id).kind, .int .i64 (findD s id).cls, .str (findD s id).name.1, q'.v] :: .cells [lv] :: J) q'.l.length (by omega) ⟨0, [.free], .nilsl, by omega, by omega, .inl ⟨rfl, rfl⟩, rfl, rfl, rfl, rfl, rfl, rfl, rfl, rfl, rfl, rfl⟩ ?_
      rintro j ⟨t, own⟩ K ⟨i, J, lv, rfl, hi, hO, hl, k2, k4, k5, k6, k7, k33, k34, k35, ho⟩ hn he hr
      dsimp only at hl k2 k4 k5 k6 k7 k33 k34 k35 ho
      have ht : t = [getK (.tuple []) t 0, getK (.tuple []) t 1, getK (.tuple []) t 2, getK (.tuple []) t 3, getK (.tuple []) t 4, getK (.tuple []) t 5, getK (.tuple []) t 6, getK (.tuple []) t 7, getK (.tuple []) t 8, getK (.tuple []) t 9, getK (.tuple []) t 10, getK (.tuple []) t 11, getK (.tuple []) t 12, getK (.tuple []) t 13, getK (.tuple []) t 14, getK (.tuple []) t 15, getK (.tuple []) t 16, getK (.tuple []) t 17, getK (.tuple []) t 18, getK (.tuple []) t 19, getK (.tuple []) t 20, getK (.tuple []) t 21, getK (.tuple []) t 22, getK (.tuple []) t 23, getK (.tuple []) t 24, getK (.tuple []) t 25, getK (.tuple []) t 26, getK (.tuple []) t 27, getK (.tuple []) t 28, getK (.tuple []) t 29, getK (.tuple []) t 30, getK (.tuple []) t 31, getK (.tuple []) t 32, getK (.tuple []) t 33, getK (.tuple []) t 34, getK (.tuple []) t 35, getK (.tuple []) t 36, getK (.tuple []) t 37, getK (.tuple []) t 38, getK (.tuple []) t 39, getK (.tuple []) t 40, getK (.tuple []) t 41, getK (.tuple []) t 42, getK (.tuple []) t 43, getK (.tuple []) t 44, getK (.tuple []) t 45, getK (.tuple []) t 46, getK (.tuple []) t 47, getK (.tuple []) t 48, getK (.tuple []) t 49, getK (.tuple []) t 50, getK (.tuple []) t 51, getK (.tuple []) t 52, getK (.tuple []) t 53, getK (.tuple []) t 54, getK (.tuple []) t 55, getK (.tuple []) t 56, getK (.tuple []) t 57, getK (.tuple []) t 58, getK (.tuple []) t 59, getK (.tuple []) t 60, getK (.tuple []) t 61, getK (.tuple []) t 62, getK (.tuple []) t 63, getK (.tuple []) t 64, getK (.tuple []) t 65, getK (.tuple []) t 66, getK (.tuple []) t 67, getK (.tuple []) t 68, getK (.tuple []) t 69, getK (.tuple []) t 70, getK (.tuple []) t 71, getK (.tuple []) t 72, getK (.tuple []) t 73, getK (.tuple []) t 74, getK (.tuple []) t 75, getK (.tuple []) t 76, getK (.tuple []) t 77, getK (.tuple []) t 78, getK (.tuple []) t 79, getK (.tuple []) t 80, getK (.tuple []) t 81, getK (.tuple []) t 82, getK (.tuple []) t 83, getK (.tuple []) t 84, getK (.tuple []) t 85, getK (.tuple []) t 86, getK (.tuple []) t 87, getK (.tuple []) t 88, getK (.tuple []) t 89, getK (.tuple []) t 90, getK (.tuple []) t 91, getK (.tuple []) t 92, getK (.tuple []) t 93, getK (.tuple []) t 94, getK (.tuple []) t 95, getK (.tuple []) t 96, getK (.tuple []) t 97, getK (.tuple []) t 98] := expand_t hl
      simp only [k2, k4, k5, k6, k7, k33, k34, k35] at ht
      generalize getK (.tuple []) t = r at ht
      subst ht
      subst ho
      by_cases h : i < q'.l.length
      · have hx : q'.l[i]? = some q'.l[i] := List.getElem?_eq_getElem h
        generalize q'.l[i] = x at hx
        have hmem := List.mem_of_getElem? hx
        have hrd : rdN (q'.l.flatMap intc) (i * 1) 1 = some [iv x] := rdN_flat intc_len 0 1 hx (by omega)
        have hw : wrapI .i64 ((i : Int) + 1) = ((i + 1 : Nat) : Int) := wrap_succ (by have := q'.few; omega)
        have c3 := fun d out ownV own i => hN3 x hmem m (by omega) d out ownV own i
        simp only [iv_eq, Pn.c, Nd.c] at c3
        have hnx := take_flat (g := nodeP s.pl) hx
        have hle : ((q'.l.take i).flatMap (nodeP s.pl)).length ≤ 1000 * 1 := by
          refine Nat.le_trans (flat_le fun a _ => nodeP_le s.pl a) (Nat.mul_le_mul_right _ ?_)
          rw [List.length_take]
          omega
        cases hb : (nodeF s.pl x).isSome
        · simp only [nodeP, hb, cond_false, List.append_nil] at hnx
          simp only [hb] at c3
          simp only [Wall, e_nilchk, e_pick, e_box, e_bslice, e_load, e_store, e_eqb, e_eqp, e_eqs, e_eqagg, e_conv, e_faddr, e_field, e_extract, e_call, e_mx, mkAt, List.replicate, List.cons_append, List.nil_append, List.append_nil, List.all_cons, List.all_nil, Bool.and_self, Bool.and_true, Bool.true_and, if_true, List.length_nil, List.length_cons, Nat.zero_add, Nat.add_zero, Nat.reduceAdd, Nat.reduceMul, Nat.reduceLeDiff, Nat.le_refl, and_self, and_true, true_and, List.getElem?_cons_zero, List.getElem?_cons_succ, look, mkv, Option.map_some, Option.map_none, Option.bind_some, Bool.false_eq_true, if_false, List.map_cons, List.map_nil, binI, intBin, isShift, unI, reduceCtorEq, fillI, Nat.reduceEqDiff, Int.ofNat_lt, decide_true, decide_false, beq_iff_eq, cellV, List.append_assoc, List.length_append, Bool.not_true, Bool.not_false, h, iaddrV_sl q' h, hrd, c3, hw]
          exact hn _ (q'.l.length - (i + 1)) (by omega) ⟨i + 1, _, lv, rfl, by omega, by rw [hnx]; exact hO.more _, rfl, rfl, rfl, rfl, rfl, rfl, rfl, rfl, rfl, rfl⟩
        · simp only [nodeP, hb, cond_true] at hnx
          simp only [hb] at c3
          obtain ⟨e, lv', J2, happ, hO2⟩ := ownJ_app (Pre := [.cells [s.pl.ns.v, s.pl.as.v, s.pl.fs.v, s.ft.v], .cells [.int .i64 0, .int .i64 0, .int .i64 0, .int .i64 0], .free, .cells [.int .i64 (findD s id).id, .int .i64 (findD s id).kind, .int .i64 (findD s id).cls, .str (findD s id).name.1, q'.v], .cells [lv]]) (n0 := J.length + 2 + 1 + 1 + 1 + 1 + 1) (slot := 0) (k := 2) (out := out) (R := [.free, .cells [.int .i64 (nodeD s.pl x).id, .int .i64 (nodeD s.pl x).at'.x, .int .i64 (nodeD s.pl x).at'.y], .free]) Pt.c_len hO (ys := [(nodeD s.pl x).at']) (by simp) (by simp only [List.length_cons, List.length_nil]; omega) (by simp only [List.length_cons, List.length_nil]; omega) rfl pts_scal
          simp only [List.cons_append, List.nil_append, List.flatMap_cons, List.flatMap_nil, Pt.c, iv_eq, List.length_cons, List.length_nil, List.append_nil, Nat.zero_add] at happ
          obtain ⟨v1, v2⟩ := hO2.one
          simp only [Wall, e_nilchk, e_pick, e_box, e_bslice, e_load, e_store, e_eqb, e_eqp, e_eqs, e_eqagg, e_conv, e_faddr, e_field, e_extract, e_call, e_mx, mkAt, List.replicate, List.cons_append, List.nil_append, List.append_nil, List.all_cons, List.all_nil, Bool.and_self, Bool.and_true, Bool.true_and, if_true, List.length_nil, List.length_cons, Nat.zero_add, Nat.add_zero, Nat.reduceAdd, Nat.reduceMul, Nat.reduceLeDiff, Nat.le_refl, and_self, and_true, true_and, List.getElem?_cons_zero, List.getElem?_cons_succ, look, mkv, Option.map_some, Option.map_none, Option.bind_some, Bool.false_eq_true, if_false, List.map_cons, List.map_nil, binI, intBin, isShift, unI, reduceCtorEq, fillI, Nat.reduceEqDiff, Int.ofNat_lt, decide_true, decide_false, beq_iff_eq, cellV, List.append_assoc, List.length_append, Bool.not_true, Bool.not_false, h, iaddrV_sl q' h, hrd, c3, hw, rep, ev_append, app_src, app_ok, cellsI_pt, happ, v1, v2]
          exact hn _ (q'.l.length - (i + 1)) (by omega) ⟨i + 1, J2, lv', rfl, by omega, by rw [hnx]; exact hO2, rfl, rfl, rfl, rfl, rfl, rfl, rfl, rfl, rfl, rfl⟩
      · simp only [Wall, e_nilchk, e_pick, e_box, e_bslice, e_load, e_store, e_eqb, e_eqp, e_eqs, e_eqagg, e_conv, e_faddr, e_field, e_extract, e_call, e_mx, mkAt, List.replicate, List.cons_append, List.nil_append, List.append_nil, List.all_cons, List.all_nil, Bool.and_self, Bool.and_true, Bool.true_and, if_true, List.length_nil, List.length_cons, Nat.zero_add, Nat.add_zero, Nat.reduceAdd, Nat.reduceMul, Nat.reduceLeDiff, Nat.le_refl, and_self, and_true, true_and, List.getElem?_cons_zero, List.getElem?_cons_succ, look, mkv, Option.map_some, Option.map_none, Option.bind_some, Bool.false_eq_true, if_false, List.map_cons, List.map_nil, binI, intBin, isShift, unI, reduceCtorEq, fillI, Nat.reduceEqDiff, Int.ofNat_lt, decide_true, decide_false, beq_iff_eq, cellV, List.append_assoc, List.length_append, Bool.not_true, Bool.not_false, h]
        refine he _ _ ?_
        rw [List.take_of_length_le (by omega), ← hpp] at hO
        rcases hO with ⟨hxs, rfl⟩ | ⟨b, hxs, rfl, hb⟩
        · simp only [Wall, e_nilchk, e_pick, e_box, e_bslice, e_load, e_store, e_eqb, e_eqp, e_eqs, e_eqagg, e_conv, e_faddr, e_field, e_extract, e_call, e_mx, mkAt, List.replicate, List.cons_append, List.nil_append, List.append_nil, List.all_cons, List.all_nil, Bool.and_self, Bool.and_true, Bool.true_and, if_true, List.length_nil, List.length_cons, Nat.zero_add, Nat.add_zero, Nat.reduceAdd, Nat.reduceMul, Nat.reduceLeDiff, Nat.le_refl, and_self, and_true, true_and, List.getElem?_cons_zero, List.getElem?_cons_succ, look, mkv, Option.map_some, Option.map_none, Option.bind_some, Bool.false_eq_true, if_false, List.map_cons, List.map_nil, binI, intBin, isShift, unI, reduceCtorEq, fillI, Nat.reduceEqDiff, Int.ofNat_lt, decide_true, decide_false, beq_iff_eq, cellV, List.append_assoc, List.length_append, Bool.not_true, Bool.not_false, zz0, Bx.r]
          rw [hxs]
          rfl
        · obtain ⟨p0, tl, hpt⟩ : ∃ p0 tl, progPts s.pl (findD s id) = p0 :: tl := by
            cases hh : progPts s.pl (findD s id) with
            | nil => exact absurd hh hxs
            | cons p0 tl => exact ⟨p0, tl, rfl⟩
          have hz : (((progPts s.pl (findD s id)).length : Int) == 0) = false := by
            rw [beq_eq_false_iff_ne, hpt]
            simp only [List.length_cons]
            omega
          have hring := fun own hob => ring_own hS (progPts s.pl (findD s id)) p0 (by rw [hpt]; rfl) (by omega) m (by omega) d out own own (J.length + 1 + 1 + 1 + 1 + 1) (5 + b) hob
          have hring2 := hring (.cells [s.pl.ns.v, s.pl.as.v, s.pl.fs.v, s.ft.v] :: .cells [.int .i64 0, .int .i64 0, .int .i64 0, .int .i64 0] :: .free :: .cells [.int .i64 (findD s id).id, .int .i64 (findD s id).kind, .int .i64 (findD s id).cls, .str (findD s id).name.1, q'.v] :: .cells [.slM d (5 + b) 0 (progPts s.pl (findD s id)).length (progPts s.pl (findD s id)).length 2 false] :: (J ++ [.free])) (by
            rw [show 5 + b = b + 1 + 1 + 1 + 1 + 1 by omega]
            simp only [List.getElem?_cons_succ]
            rw [List.getElem?_append_left (List.getElem?_eq_some_iff.1 hb).1]
            exact hb)
          simp only [Wall, e_nilchk, e_pick, e_box, e_bslice, e_load, e_store, e_eqb, e_eqp, e_eqs, e_eqagg, e_conv, e_faddr, e_field, e_extract, e_call, e_mx, mkAt, List.replicate, List.cons_append, List.nil_append, List.append_nil, List.all_cons, List.all_nil, Bool.and_self, Bool.and_true, Bool.true_and, if_true, List.length_nil, List.length_cons, Nat.zero_add, Nat.add_zero, Nat.reduceAdd, Nat.reduceMul, Nat.reduceLeDiff, Nat.le_refl, and_self, and_true, true_and, List.getElem?_cons_zero, List.getElem?_cons_succ, look, mkv, Option.map_some, Option.map_none, Option.bind_some, Bool.false_eq_true, if_false, List.map_cons, List.map_nil, binI, intBin, isShift, unI, reduceCtorEq, fillI, Nat.reduceEqDiff, Int.ofNat_lt, decide_true, decide_false, beq_iff_eq, cellV, List.append_assoc, List.length_append, Bool.not_true, Bool.not_false, hz, hring2, Bx.r]
          rw [hpt]
          rfl
end
end Go.Proofs.YtbfljfjjnijigaaGreatDoor
end
section
namespace Go.Proofs.YtbfljfjjnijigaaGreatDoor
open Go Go.RowKit
structure IsBox (l : List Pt) (x : Bx) : Prop where
  all : ∀ q ∈ l, x.a ≤ q.x ∧ x.b ≤ q.y ∧ q.x ≤ x.c ∧ q.y ≤ x.e
  a : ∃ q ∈ l, q.x = x.a
  b : ∃ q ∈ l, q.y = x.b
  c : ∃ q ∈ l, q.x = x.c
  e : ∃ q ∈ l, q.y = x.e
theorem isBox_start (p : Pt) : IsBox [p] (startB p) := by
  refine ⟨fun q hq => ?_, ⟨p, by simp, rfl⟩, ⟨p, by simp, rfl⟩, ⟨p, by simp, rfl⟩, ⟨p, by simp, rfl⟩⟩
  rw [List.mem_singleton] at hq
  subst hq
  simp [startB]
theorem isBox_step {l : List Pt} {x : Bx} (h : IsBox l x) (q : Pt) : IsBox (l ++ [q]) (stepB x q) := by
  have last : q ∈ l ++ [q] := by simp
  have old : ∀ r ∈ l, r ∈ l ++ [q] := fun r hr => List.mem_append_left _ hr
  constructor
  · intro r hr
    rcases List.mem_append.1 hr with hr | hr
    · have := h.all r hr
      simp only [stepB]
      refine ⟨?_, ?_, ?_, ?_⟩ <;> split <;> omega
    · rw [List.mem_singleton] at hr
      subst hr
      simp only [stepB]
      refine ⟨?_, ?_, ?_, ?_⟩ <;> split <;> omega
  · simp only [stepB]
    split
    · exact ⟨q, last, rfl⟩
    · obtain ⟨r, hr, he⟩ := h.a; exact ⟨r, old r hr, he⟩
  · simp only [stepB]
    split
    · exact ⟨q, last, rfl⟩
    · obtain ⟨r, hr, he⟩ := h.b; exact ⟨r, old r hr, he⟩
  · simp only [stepB]
    split
    · exact ⟨q, last, rfl⟩
    · obtain ⟨r, hr, he⟩ := h.c; exact ⟨r, old r hr, he⟩
  · simp only [stepB]
    split
    · exact ⟨q, last, rfl⟩
    · obtain ⟨r, hr, he⟩ := h.e; exact ⟨r, old r hr, he⟩
theorem isBox_fold : ∀ {l acc : List Pt} {x : Bx}, IsBox acc x → IsBox (acc ++ l) (l.foldl stepB x)
  | [], acc, x, h => by simpa using h
  | q :: l, acc, x, h => by
    have := isBox_fold (l := l) (isBox_step h q)
    rw [List.append_assoc] at this
    exact this
theorem isBox_mem {l l' : List Pt} {x : Bx} (h : IsBox l x) (hm : ∀ q, q ∈ l ↔ q ∈ l') : IsBox l' x :=
  ⟨fun q hq => h.all q ((hm q).2 hq), let ⟨q, h1, h2⟩ := h.a; ⟨q, (hm q).1 h1, h2⟩, let ⟨q, h1, h2⟩ := h.b; ⟨q, (hm q).1 h1, h2⟩, let ⟨q, h1, h2⟩ := h.c; ⟨q, (hm q).1 h1, h2⟩, let ⟨q, h1, h2⟩ := h.e; ⟨q, (hm q).1 h1, h2⟩⟩
theorem isBox_one {l : List Pt} {x y : Bx} (h : IsBox l x) (h' : IsBox l y) : x = y := by
  obtain ⟨q1, m1, e1⟩ := h.a
  obtain ⟨q2, m2, e2⟩ := h.b
  obtain ⟨q3, m3, e3⟩ := h.c
  obtain ⟨q4, m4, e4⟩ := h.e
  obtain ⟨r1, n1, f1⟩ := h'.a
  obtain ⟨r2, n2, f2⟩ := h'.b
  obtain ⟨r3, n3, f3⟩ := h'.c
  obtain ⟨r4, n4, f4⟩ := h'.e
  have a1 := h'.all q1 m1
  have a2 := h'.all q2 m2
  have a3 := h'.all q3 m3
  have a4 := h'.all q4 m4
  have b1 := h.all r1 n1
  have b2 := h.all r2 n2
  have b3 := h.all r3 n3
  have b4 := h.all r4 n4
  cases x
  cases y
  simp only at *
  congr 1 <;> omega
theorem isBox_boxP {p : Pt} {t : List Pt} : IsBox (p :: t) (boxP (p :: t)) := by
  have h := isBox_fold (l := p :: t) (isBox_start p)
  refine isBox_mem h fun q => ?_
  simp
theorem box_same {l l' : List Pt} (hm : ∀ q, q ∈ l ↔ q ∈ l') : boxP l = boxP l' ∧ hasP l = hasP l' := by
  cases l with
  | nil =>
    cases l' with
    | nil => exact ⟨rfl, rfl⟩
    | cons p t => exact absurd ((hm p).2 (List.mem_cons_self ..)) (by simp)
  | cons p t =>
    cases l' with
    | nil => exact absurd ((hm p).1 (List.mem_cons_self ..)) (by simp)
    | cons p' t' => exact ⟨isBox_one (isBox_mem isBox_boxP hm) isBox_boxP, rfl⟩
theorem pts_same (p : Pn) (f : Ft) : ∀ q, q ∈ progPts p f ↔ q ∈ refPts p f := by
  intro q
  unfold progPts refPts
  cases b1 : shapeI f.kind == 1
  · simp only [cond_false]
    cases b2 : shapeI f.kind == 2
    · simp only [cond_false]
      have hs := shapeI_range f.kind
      cases b3 : shapeI f.kind == 3
      · have hg : decide (shapeI f.kind > 1) = false := by
          have h1 : shapeI f.kind ≠ 1 := by simpa using b1
          have h2 : shapeI f.kind ≠ 2 := by simpa using b2
          have h3 : shapeI f.kind ≠ 3 := by simpa using b3
          rw [decide_eq_false_iff_not]
          omega
        rw [hg]
        rfl
      · have h3 : shapeI f.kind = 3 := by simpa using b3
        have hg : decide (shapeI f.kind > 1) = true := by rw [decide_eq_true_iff]; omega
        rw [hg]
        have he : sideP p f = arcP p f := by
          funext a
          simp only [sideP, arcP, sideIn, arcIn, b2, b3, Bool.false_and, Bool.false_or, Bool.true_and]
        simp only [cond_true, he]
    · have h2 : shapeI f.kind = 2 := by simpa using b2
      have b3 : (shapeI f.kind == 3) = false := by rw [beq_eq_false_iff_ne]; omega
      have hg : decide (shapeI f.kind > 1) = true := by rw [decide_eq_true_iff]; omega
      rw [hg]
      simp only [cond_true, List.mem_flatMap]
      constructor
      · rintro ⟨k, hk, hq⟩
        have hok : pathOk p k = true := by
          cases h : pathOk p k
          · simp [pathP, h] at hq
          · rfl
        have hso : (arcF p k).isSome = true := by
          unfold pathOk at hok
          rw [Bool.and_eq_true] at hok
          exact hok.1
        obtain ⟨a, ha⟩ := Option.isSome_iff_exists.1 hso
        have hid : a.id = k := by
          have := List.find?_some ha
          simpa using this
        refine ⟨a, List.mem_of_find?_eq_some ha, ?_⟩
        have hin : arcIn f a = true := by
          simp only [arcIn, b2, Bool.true_and, Bool.or_eq_true]
          exact .inl (List.contains_iff_mem.2 (hid ▸ hk))
        simp only [arcP, hin, cond_true, hid]
        exact hq
      · rintro ⟨a, ha, hq⟩
        cases hin : arcIn f a
        · simp [arcP, hin] at hq
        · simp only [arcP, hin, cond_true] at hq
          refine ⟨a.id, ?_, hq⟩
          simp only [arcIn, b2, b3, Bool.true_and, Bool.false_and, Bool.or_false] at hin
          exact List.contains_iff_mem.1 hin
  · rfl
theorem bounds_same (s : Sv) (id : Int) : boxP (bif findOk s id then progPts s.pl (findD s id) else []) = boxP (bif findOk s id then refPts s.pl (findD s id) else []) ∧ hasP (progPts s.pl (findD s id)) = hasP (refPts s.pl (findD s id)) := by
  have h := box_same (pts_same s.pl (findD s id))
  refine ⟨?_, h.2⟩
  cases findOk s id
  · rfl
  · exact h.1
end Go.Proofs.YtbfljfjjnijigaaGreatDoor
end
section
namespace Go.Proofs.YtbfljfjjnijigaaGreatDoor
open Go Go.RowKit
set_option maxRecDepth 100000
set_option maxHeartbeats 1600000
def sumC {α : Type} (g : α → Nat) (l : List α) : Nat := (l.map g).sum
theorem sum_next {α : Type} {g : α → Nat} {l : List α} {i : Nat} {x : α} (hx : l[i]? = some x) : sumC g (l.take (i + 1)) = sumC g (l.take i) + g x := by
  unfold sumC
  rw [List.take_add_one, hx, Option.toList_some, List.map_append, List.sum_append]
  simp
theorem sum_le {α : Type} {g : α → Nat} (l : List α) (i : Nat) : sumC g (l.take i) ≤ sumC g l := by
  unfold sumC
  conv => rhs; rw [← List.take_append_drop i l, List.map_append, List.sum_append]
  omega
theorem sum_mem {α : Type} {g : α → Nat} : ∀ {l : List α} {x : α}, x ∈ l → g x ≤ sumC g l
  | y :: l, x, h => by
    have e : sumC g (y :: l) = g y + sumC g l := by simp [sumC]
    rw [e]
    rcases List.mem_cons.1 h with rfl | h
    · omega
    · have := sum_mem (g := g) h
      omega
def viaC (a : Ac) : Nat := min a.via.l.length 501
def partC (f : Ft) : Nat := min f.parts.l.length 501
theorem w501 : wrapI .i64 (500 + 1) = 501 := by rw [wrapI_eq]; decide
theorem min501 (n : Nat) : (if (501 : Int) < (n : Int) then (501 : Int) else (n : Int)) = ((min n 501 : Nat) : Int) := by
  split <;> omega
def few14 (p : Pn) : Bool := decide (p.ns.l.length ≤ 500) && (decide (p.as.l.length ≤ 500) && (decide (p.fs.l.length ≤ 500) && decide (sumC viaC p.as.l ≤ 500)))
def few17 (s : Sv) : Bool := few14 s.pl && (decide (s.ft.l.length ≤ 500) && decide (sumC partC s.ft.l ≤ 500))
theorem gt500 {n : Nat} : decide ((n : Int) > 500) = !decide (n ≤ 500) := by
  rw [Bool.eq_iff_iff]
  simp
  omega
theorem le500 {n : Nat} : decide ((n : Int) ≤ 500) = decide (n ≤ 500) := by
  rw [Bool.eq_iff_iff, decide_eq_true_iff, decide_eq_true_iff]
  omega
section
variable {S : FuncId → List IV → Option IV}
theorem gives_few14 (hS : NoS S) (p : Pn) : Gives Ftab S 16 [.agg p.c, iv 500] (.bool (few14 p)) := by
  refine gives_fz (i := i16) (k := 1) (hS _ _ (by decide) (by decide) (by decide) (by decide)) rfl rfl fz_bool (p.as.l.length + 5) (by omega) fun m hm d out => ?_
  unfold few14
  cases h1 : decide (p.ns.l.length ≤ 500)
  · simp only [i16, Wall, e_nilchk, e_pick, e_box, e_bslice, e_load, e_store, e_eqb, e_eqp, e_eqs, e_eqagg, e_conv, e_faddr, e_field, e_extract, e_call, e_mx, mkAt, List.replicate, List.cons_append, List.nil_append, List.append_nil, List.all_cons, List.all_nil, Bool.and_self, Bool.and_true, Bool.true_and, if_true, List.length_nil, List.length_cons, Nat.zero_add, Nat.add_zero, Nat.reduceAdd, Nat.reduceMul, Nat.reduceLeDiff, Nat.le_refl, and_self, and_true, true_and, List.getElem?_cons_zero, List.getElem?_cons_succ, look, mkv, Option.map_some, Option.map_none, Option.bind_some, Bool.false_eq_true, if_false, List.map_cons, List.map_nil, binI, intBin, isShift, unI, reduceCtorEq, fillI, Nat.reduceEqDiff, Int.ofNat_lt, decide_true, decide_false, beq_iff_eq, cellV, List.append_assoc, List.length_append, Bool.not_true, Bool.not_false, Pn.c, gt500, h1, Bool.false_and]
  cases h2 : decide (p.as.l.length ≤ 500)
  · simp only [i16, Wall, e_nilchk, e_pick, e_box, e_bslice, e_load, e_store, e_eqb, e_eqp, e_eqs, e_eqagg, e_conv, e_faddr, e_field, e_extract, e_call, e_mx, mkAt, List.replicate, List.cons_append, List.nil_append, List.append_nil, List.all_cons, List.all_nil, Bool.and_self, Bool.and_true, Bool.true_and, if_true, List.length_nil, List.length_cons, Nat.zero_add, Nat.add_zero, Nat.reduceAdd, Nat.reduceMul, Nat.reduceLeDiff, Nat.le_refl, and_self, and_true, true_and, List.getElem?_cons_zero, List.getElem?_cons_succ, look, mkv, Option.map_some, Option.map_none, Option.bind_some, Bool.false_eq_true, if_false, List.map_cons, List.map_nil, binI, intBin, isShift, unI, reduceCtorEq, fillI, Nat.reduceEqDiff, Int.ofNat_lt, decide_true, decide_false, beq_iff_eq, cellV, List.append_assoc, List.length_append, Bool.not_true, Bool.not_false, Pn.c, gt500, h1, h2, Bool.false_and]
  cases h3 : decide (p.fs.l.length ≤ 500)
  · simp only [i16, Wall, e_nilchk, e_pick, e_box, e_bslice, e_load, e_store, e_eqb, e_eqp, e_eqs, e_eqagg, e_conv, e_faddr, e_field, e_extract, e_call, e_mx, mkAt, List.replicate, List.cons_append, List.nil_append, List.append_nil, List.all_cons, List.all_nil, Bool.and_self, Bool.and_true, Bool.true_and, if_true, List.length_nil, List.length_cons, Nat.zero_add, Nat.add_zero, Nat.reduceAdd, Nat.reduceMul, Nat.reduceLeDiff, Nat.le_refl, and_self, and_true, true_and, List.getElem?_cons_zero, List.getElem?_cons_succ, look, mkv, Option.map_some, Option.map_none, Option.bind_some, Bool.false_eq_true, if_false, List.map_cons, List.map_nil, binI, intBin, isShift, unI, reduceCtorEq, fillI, Nat.reduceEqDiff, Int.ofNat_lt, decide_true, decide_false, beq_iff_eq, cellV, List.append_assoc, List.length_append, Bool.not_true, Bool.not_false, Pn.c, gt500, h1, h2, h3, Bool.false_and]
  simp only [i16, Wall, e_nilchk, e_pick, e_box, e_bslice, e_load, e_store, e_eqb, e_eqp, e_eqs, e_eqagg, e_conv, e_faddr, e_field, e_extract, e_call, e_mx, mkAt, List.replicate, List.cons_append, List.nil_append, List.append_nil, List.all_cons, List.all_nil, Bool.and_self, Bool.and_true, Bool.true_and, if_true, List.length_nil, List.length_cons, Nat.zero_add, Nat.add_zero, Nat.reduceAdd, Nat.reduceMul, Nat.reduceLeDiff, Nat.le_refl, and_self, and_true, true_and, List.getElem?_cons_zero, List.getElem?_cons_succ, look, mkv, Option.map_some, Option.map_none, Option.bind_some, Bool.false_eq_true, if_false, List.map_cons, List.map_nil, binI, intBin, isShift, unI, reduceCtorEq, fillI, Nat.reduceEqDiff, Int.ofNat_lt, decide_true, decide_false, beq_iff_eq, cellV, List.append_assoc, List.length_append, Bool.not_true, Bool.not_false, Pn.c, gt500, h1, h2, h3]
  refine ex_rounds (fun j st => ∃ i J, j = p.as.l.length - i ∧ i ≤ p.as.l.length ∧ st.t.length = 53 ∧ getK (.tuple []) st.t 1 = iv 500 ∧ getK (.tuple []) st.t 2 = .ptrM d 0 0 ∧ getK (.tuple []) st.t 4 = .bool false ∧ getK (.tuple []) st.t 5 = iv ((sumC viaC (p.as.l.take i) : Nat) : Int) ∧ getK (.tuple []) st.t 6 = iv i ∧ st.own = .cells [p.ns.v, p.as.v, p.fs.v] :: J) p.as.l.length (by omega) ⟨0, [], by omega, by omega, rfl, rfl, rfl, rfl, rfl, rfl, rfl⟩ ?_
  rintro j ⟨t, own⟩ K ⟨i, J, rfl, hi, hl, k1, k2, k4, k5, k6, ho⟩ hn he hr
  dsimp only at hl k1 k2 k4 k5 k6 ho
  have ht : t = [getK (.tuple []) t 0, getK (.tuple []) t 1, getK (.tuple []) t 2, getK (.tuple []) t 3, getK (.tuple []) t 4, getK (.tuple []) t 5, getK (.tuple []) t 6, getK (.tuple []) t 7, getK (.tuple []) t 8, getK (.tuple []) t 9, getK (.tuple []) t 10, getK (.tuple []) t 11, getK (.tuple []) t 12, getK (.tuple []) t 13, getK (.tuple []) t 14, getK (.tuple []) t 15, getK (.tuple []) t 16, getK (.tuple []) t 17, getK (.tuple []) t 18, getK (.tuple []) t 19, getK (.tuple []) t 20, getK (.tuple []) t 21, getK (.tuple []) t 22, getK (.tuple []) t 23, getK (.tuple []) t 24, getK (.tuple []) t 25, getK (.tuple []) t 26, getK (.tuple []) t 27, getK (.tuple []) t 28, getK (.tuple []) t 29, getK (.tuple []) t 30, getK (.tuple []) t 31, getK (.tuple []) t 32, getK (.tuple []) t 33, getK (.tuple []) t 34, getK (.tuple []) t 35, getK (.tuple []) t 36, getK (.tuple []) t 37, getK (.tuple []) t 38, getK (.tuple []) t 39, getK (.tuple []) t 40, getK (.tuple []) t 41, getK (.tuple []) t 42, getK (.tuple []) t 43, getK (.tuple []) t 44, getK (.tuple []) t 45, getK (.tuple []) t 46, getK (.tuple []) t 47, getK (.tuple []) t 48, getK (.tuple []) t 49, getK (.tuple []) t 50, getK (.tuple []) t 51, getK (.tuple []) t 52] := expand_t hl
  simp only [k1, k2, k4, k5, k6] at ht
  generalize getK (.tuple []) t = r at ht
  subst ht
  subst ho
  by_cases h : i < p.as.l.length
  · have hx : p.as.l[i]? = some p.as.l[i] := List.getElem?_eq_getElem h
    generalize p.as.l[i] = x at hx
    have hnx := sum_next (g := viaC) hx
    have htot := sum_le (g := viaC) p.as.l i
    have hmx : viaC x ≤ 501 := Nat.min_le_right _ _
    have hrd : rdN (p.as.l.flatMap Ac.c) (i * 6 + 3) 1 = some [x.via.v] := (rdN_flat Ac.c_len 3 1 hx (by omega)).trans rfl
    have hw : wrapI .i64 ((i : Int) + 1) = ((i + 1 : Nat) : Int) := wrap_succ (by have := p.as.few; omega)
    have hmin : (if (501 : Int) < (x.via.l.length : Int) then (501 : Int) else (x.via.l.length : Int)) = ((viaC x : Nat) : Int) := min501 _
    generalize sumC viaC (p.as.l.take i) = n at *
    cases hle : decide ((n : Int) ≤ 500)
    · simp only [Wall, e_nilchk, e_pick, e_box, e_bslice, e_load, e_store, e_eqb, e_eqp, e_eqs, e_eqagg, e_conv, e_faddr, e_field, e_extract, e_call, e_mx, mkAt, List.replicate, List.cons_append, List.nil_append, List.append_nil, List.all_cons, List.all_nil, Bool.and_self, Bool.and_true, Bool.true_and, if_true, List.length_nil, List.length_cons, Nat.zero_add, Nat.add_zero, Nat.reduceAdd, Nat.reduceMul, Nat.reduceLeDiff, Nat.le_refl, and_self, and_true, true_and, List.getElem?_cons_zero, List.getElem?_cons_succ, look, mkv, Option.map_some, Option.map_none, Option.bind_some, Bool.false_eq_true, if_false, List.map_cons, List.map_nil, binI, intBin, isShift, unI, reduceCtorEq, fillI, Nat.reduceEqDiff, Int.ofNat_lt, decide_true, decide_false, beq_iff_eq, cellV, List.append_assoc, List.length_append, Bool.not_true, Bool.not_false, h, hle]
      refine he _ _ ?_
      simp only [Wall, e_nilchk, e_pick, e_box, e_bslice, e_load, e_store, e_eqb, e_eqp, e_eqs, e_eqagg, e_conv, e_faddr, e_field, e_extract, e_call, e_mx, mkAt, List.replicate, List.cons_append, List.nil_append, List.append_nil, List.all_cons, List.all_nil, Bool.and_self, Bool.and_true, Bool.true_and, if_true, List.length_nil, List.length_cons, Nat.zero_add, Nat.add_zero, Nat.reduceAdd, Nat.reduceMul, Nat.reduceLeDiff, Nat.le_refl, and_self, and_true, true_and, List.getElem?_cons_zero, List.getElem?_cons_succ, look, mkv, Option.map_some, Option.map_none, Option.bind_some, Bool.false_eq_true, if_false, List.map_cons, List.map_nil, binI, intBin, isShift, unI, reduceCtorEq, fillI, Nat.reduceEqDiff, Int.ofNat_lt, decide_true, decide_false, beq_iff_eq, cellV, List.append_assoc, List.length_append, Bool.not_true, Bool.not_false, hle]
      have hbig : decide (sumC viaC p.as.l ≤ 500) = false := by
        rw [decide_eq_false_iff_not] at hle ⊢
        omega
      rw [hbig]
      all_goals simp only [Bool.and_false]
    · have hle' : n ≤ 500 := by
        rw [decide_eq_true_iff] at hle
        omega
      have hadd : wrapI .i64 ((n : Int) + ((viaC x : Nat) : Int)) = ((n + viaC x : Nat) : Int) := wrap_add (by omega)
      simp only [Wall, e_nilchk, e_pick, e_box, e_bslice, e_load, e_store, e_eqb, e_eqp, e_eqs, e_eqagg, e_conv, e_faddr, e_field, e_extract, e_call, e_mx, mkAt, List.replicate, List.cons_append, List.nil_append, List.append_nil, List.all_cons, List.all_nil, Bool.and_self, Bool.and_true, Bool.true_and, if_true, List.length_nil, List.length_cons, Nat.zero_add, Nat.add_zero, Nat.reduceAdd, Nat.reduceMul, Nat.reduceLeDiff, Nat.le_refl, and_self, and_true, true_and, List.getElem?_cons_zero, List.getElem?_cons_succ, look, mkv, Option.map_some, Option.map_none, Option.bind_some, Bool.false_eq_true, if_false, List.map_cons, List.map_nil, binI, intBin, isShift, unI, reduceCtorEq, fillI, Nat.reduceEqDiff, Int.ofNat_lt, decide_true, decide_false, beq_iff_eq, cellV, List.append_assoc, List.length_append, Bool.not_true, Bool.not_false, h, hle, iaddrV_sl p.as h, hrd, w501, hmin, hadd, hw]
      exact hn _ (p.as.l.length - (i + 1)) (by omega) ⟨i + 1, J, rfl, by omega, rfl, rfl, rfl, rfl, by rw [hnx]; rfl, rfl, rfl⟩
  · simp only [Wall, e_nilchk, e_pick, e_box, e_bslice, e_load, e_store, e_eqb, e_eqp, e_eqs, e_eqagg, e_conv, e_faddr, e_field, e_extract, e_call, e_mx, mkAt, List.replicate, List.cons_append, List.nil_append, List.append_nil, List.all_cons, List.all_nil, Bool.and_self, Bool.and_true, Bool.true_and, if_true, List.length_nil, List.length_cons, Nat.zero_add, Nat.add_zero, Nat.reduceAdd, Nat.reduceMul, Nat.reduceLeDiff, Nat.le_refl, and_self, and_true, true_and, List.getElem?_cons_zero, List.getElem?_cons_succ, look, mkv, Option.map_some, Option.map_none, Option.bind_some, Bool.false_eq_true, if_false, List.map_cons, List.map_nil, binI, intBin, isShift, unI, reduceCtorEq, fillI, Nat.reduceEqDiff, Int.ofNat_lt, decide_true, decide_false, beq_iff_eq, cellV, List.append_assoc, List.length_append, Bool.not_true, Bool.not_false, h]
    refine he _ _ ?_
    rw [List.take_of_length_le (by omega)]
    simp only [Wall, e_nilchk, e_pick, e_box, e_bslice, e_load, e_store, e_eqb, e_eqp, e_eqs, e_eqagg, e_conv, e_faddr, e_field, e_extract, e_call, e_mx, mkAt, List.replicate, List.cons_append, List.nil_append, List.append_nil, List.all_cons, List.all_nil, Bool.and_self, Bool.and_true, Bool.true_and, if_true, List.length_nil, List.length_cons, Nat.zero_add, Nat.add_zero, Nat.reduceAdd, Nat.reduceMul, Nat.reduceLeDiff, Nat.le_refl, and_self, and_true, true_and, List.getElem?_cons_zero, List.getElem?_cons_succ, look, mkv, Option.map_some, Option.map_none, Option.bind_some, Bool.false_eq_true, if_false, List.map_cons, List.map_nil, binI, intBin, isShift, unI, reduceCtorEq, fillI, Nat.reduceEqDiff, Int.ofNat_lt, decide_true, decide_false, beq_iff_eq, cellV, List.append_assoc, List.length_append, Bool.not_true, Bool.not_false]
    rw [le500]
theorem gives_few17 (hS : NoS S) (s : Sv) : Gives Ftab S 4 [.agg s.c, iv 500] (.bool (few17 s)) := by
  obtain ⟨N, hN⟩ := gives_few14 hS s.pl
  refine gives_fz (i := i4) (k := 1) (hS _ _ (by decide) (by decide) (by decide) (by decide)) rfl rfl fz_bool (N + s.ft.l.length + 5) (by omega) fun m hm d out => ?_
  have c1 := fun d out ownV own i => hN m (by omega) d out ownV own i
  simp only [iv_eq, Pn.c] at c1
  unfold few17
  cases h1 : few14 s.pl
  · simp only [h1] at c1
    simp only [i4, Wall, e_nilchk, e_pick, e_box, e_bslice, e_load, e_store, e_eqb, e_eqp, e_eqs, e_eqagg, e_conv, e_faddr, e_field, e_extract, e_call, e_mx, mkAt, List.replicate, List.cons_append, List.nil_append, List.append_nil, List.all_cons, List.all_nil, Bool.and_self, Bool.and_true, Bool.true_and, if_true, List.length_nil, List.length_cons, Nat.zero_add, Nat.add_zero, Nat.reduceAdd, Nat.reduceMul, Nat.reduceLeDiff, Nat.le_refl, and_self, and_true, true_and, List.getElem?_cons_zero, List.getElem?_cons_succ, look, mkv, Option.map_some, Option.map_none, Option.bind_some, Bool.false_eq_true, if_false, List.map_cons, List.map_nil, binI, intBin, isShift, unI, reduceCtorEq, fillI, Nat.reduceEqDiff, Int.ofNat_lt, decide_true, decide_false, beq_iff_eq, cellV, List.append_assoc, List.length_append, Bool.not_true, Bool.not_false, Sv.c, c1, Bool.false_and]
  simp only [h1] at c1
  cases h2 : decide (s.ft.l.length ≤ 500)
  · simp only [i4, Wall, e_nilchk, e_pick, e_box, e_bslice, e_load, e_store, e_eqb, e_eqp, e_eqs, e_eqagg, e_conv, e_faddr, e_field, e_extract, e_call, e_mx, mkAt, List.replicate, List.cons_append, List.nil_append, List.append_nil, List.all_cons, List.all_nil, Bool.and_self, Bool.and_true, Bool.true_and, if_true, List.length_nil, List.length_cons, Nat.zero_add, Nat.add_zero, Nat.reduceAdd, Nat.reduceMul, Nat.reduceLeDiff, Nat.le_refl, and_self, and_true, true_and, List.getElem?_cons_zero, List.getElem?_cons_succ, look, mkv, Option.map_some, Option.map_none, Option.bind_some, Bool.false_eq_true, if_false, List.map_cons, List.map_nil, binI, intBin, isShift, unI, reduceCtorEq, fillI, Nat.reduceEqDiff, Int.ofNat_lt, decide_true, decide_false, beq_iff_eq, cellV, List.append_assoc, List.length_append, Bool.not_true, Bool.not_false, Sv.c, c1, gt500, h2, Bool.false_and]
  simp only [i4, Wall, e_nilchk, e_pick, e_box, e_bslice, e_load, e_store, e_eqb, e_eqp, e_eqs, e_eqagg, e_conv, e_faddr, e_field, e_extract, e_call, e_mx, mkAt, List.replicate, List.cons_append, List.nil_append, List.append_nil, List.all_cons, List.all_nil, Bool.and_self, Bool.and_true, Bool.true_and, if_true, List.length_nil, List.length_cons, Nat.zero_add, Nat.add_zero, Nat.reduceAdd, Nat.reduceMul, Nat.reduceLeDiff, Nat.le_refl, and_self, and_true, true_and, List.getElem?_cons_zero, List.getElem?_cons_succ, look, mkv, Option.map_some, Option.map_none, Option.bind_some, Bool.false_eq_true, if_false, List.map_cons, List.map_nil, binI, intBin, isShift, unI, reduceCtorEq, fillI, Nat.reduceEqDiff, Int.ofNat_lt, decide_true, decide_false, beq_iff_eq, cellV, List.append_assoc, List.length_append, Bool.not_true, Bool.not_false, Sv.c, c1, gt500, h2]
  refine ex_rounds (fun j st => ∃ i J, j = s.ft.l.length - i ∧ i ≤ s.ft.l.length ∧ st.t.length = 46 ∧ getK (.tuple []) st.t 1 = iv 500 ∧ getK (.tuple []) st.t 2 = .ptrM d 0 0 ∧ getK (.tuple []) st.t 4 = .bool false ∧ getK (.tuple []) st.t 5 = iv ((sumC partC (s.ft.l.take i) : Nat) : Int) ∧ getK (.tuple []) st.t 6 = iv i ∧ st.own = .cells [s.pl.ns.v, s.pl.as.v, s.pl.fs.v, s.ft.v] :: J) s.ft.l.length (by omega) ⟨0, [.free], by omega, by omega, rfl, rfl, rfl, rfl, rfl, rfl, rfl⟩ ?_
  rintro j ⟨t, own⟩ K ⟨i, J, rfl, hi, hl, k1, k2, k4, k5, k6, ho⟩ hn he hr
  dsimp only at hl k1 k2 k4 k5 k6 ho
  have ht : t = [getK (.tuple []) t 0, getK (.tuple []) t 1, getK (.tuple []) t 2, getK (.tuple []) t 3, getK (.tuple []) t 4, getK (.tuple []) t 5, getK (.tuple []) t 6, getK (.tuple []) t 7, getK (.tuple []) t 8, getK (.tuple []) t 9, getK (.tuple []) t 10, getK (.tuple []) t 11, getK (.tuple []) t 12, getK (.tuple []) t 13, getK (.tuple []) t 14, getK (.tuple []) t 15, getK (.tuple []) t 16, getK (.tuple []) t 17, getK (.tuple []) t 18, getK (.tuple []) t 19, getK (.tuple []) t 20, getK (.tuple []) t 21, getK (.tuple []) t 22, getK (.tuple []) t 23, getK (.tuple []) t 24, getK (.tuple []) t 25, getK (.tuple []) t 26, getK (.tuple []) t 27, getK (.tuple []) t 28, getK (.tuple []) t 29, getK (.tuple []) t 30, getK (.tuple []) t 31, getK (.tuple []) t 32, getK (.tuple []) t 33, getK (.tuple []) t 34, getK (.tuple []) t 35, getK (.tuple []) t 36, getK (.tuple []) t 37, getK (.tuple []) t 38, getK (.tuple []) t 39, getK (.tuple []) t 40, getK (.tuple []) t 41, getK (.tuple []) t 42, getK (.tuple []) t 43, getK (.tuple []) t 44, getK (.tuple []) t 45] := expand_t hl
  simp only [k1, k2, k4, k5, k6] at ht
  generalize getK (.tuple []) t = r at ht
  subst ht
  subst ho
  by_cases h : i < s.ft.l.length
  · have hx : s.ft.l[i]? = some s.ft.l[i] := List.getElem?_eq_getElem h
    generalize s.ft.l[i] = x at hx
    have hnx := sum_next (g := partC) hx
    have htot := sum_le (g := partC) s.ft.l i
    have hmx : partC x ≤ 501 := Nat.min_le_right _ _
    have hrd : rdN (s.ft.l.flatMap Ft.c) (i * 5 + 4) 1 = some [x.parts.v] := (rdN_flat Ft.c_len 4 1 hx (by omega)).trans rfl
    have hw : wrapI .i64 ((i : Int) + 1) = ((i + 1 : Nat) : Int) := wrap_succ (by have := s.ft.few; omega)
    have hmin : (if (501 : Int) < (x.parts.l.length : Int) then (501 : Int) else (x.parts.l.length : Int)) = ((partC x : Nat) : Int) := min501 _
    generalize sumC partC (s.ft.l.take i) = n at *
    cases hle : decide ((n : Int) ≤ 500)
    · simp only [Wall, e_nilchk, e_pick, e_box, e_bslice, e_load, e_store, e_eqb, e_eqp, e_eqs, e_eqagg, e_conv, e_faddr, e_field, e_extract, e_call, e_mx, mkAt, List.replicate, List.cons_append, List.nil_append, List.append_nil, List.all_cons, List.all_nil, Bool.and_self, Bool.and_true, Bool.true_and, if_true, List.length_nil, List.length_cons, Nat.zero_add, Nat.add_zero, Nat.reduceAdd, Nat.reduceMul, Nat.reduceLeDiff, Nat.le_refl, and_self, and_true, true_and, List.getElem?_cons_zero, List.getElem?_cons_succ, look, mkv, Option.map_some, Option.map_none, Option.bind_some, Bool.false_eq_true, if_false, List.map_cons, List.map_nil, binI, intBin, isShift, unI, reduceCtorEq, fillI, Nat.reduceEqDiff, Int.ofNat_lt, decide_true, decide_false, beq_iff_eq, cellV, List.append_assoc, List.length_append, Bool.not_true, Bool.not_false, h, hle]
      refine he _ _ ?_
      simp only [Wall, e_nilchk, e_pick, e_box, e_bslice, e_load, e_store, e_eqb, e_eqp, e_eqs, e_eqagg, e_conv, e_faddr, e_field, e_extract, e_call, e_mx, mkAt, List.replicate, List.cons_append, List.nil_append, List.append_nil, List.all_cons, List.all_nil, Bool.and_self, Bool.and_true, Bool.true_and, if_true, List.length_nil, List.length_cons, Nat.zero_add, Nat.add_zero, Nat.reduceAdd, Nat.reduceMul, Nat.reduceLeDiff, Nat.le_refl, and_self, and_true, true_and, List.getElem?_cons_zero, List.getElem?_cons_succ, look, mkv, Option.map_some, Option.map_none, Option.bind_some, Bool.false_eq_true, if_false, List.map_cons, List.map_nil, binI, intBin, isShift, unI, reduceCtorEq, fillI, Nat.reduceEqDiff, Int.ofNat_lt, decide_true, decide_false, beq_iff_eq, cellV, List.append_assoc, List.length_append, Bool.not_true, Bool.not_false, hle]
      have hbig : decide (sumC partC s.ft.l ≤ 500) = false := by
        rw [decide_eq_false_iff_not] at hle ⊢
        omega
      rw [hbig]
      all_goals simp only [Bool.and_false]
    · have hle' : n ≤ 500 := by
        rw [decide_eq_true_iff] at hle
        omega
      have hadd : wrapI .i64 ((n : Int) + ((partC x : Nat) : Int)) = ((n + partC x : Nat) : Int) := wrap_add (by omega)
      simp only [Wall, e_nilchk, e_pick, e_box, e_bslice, e_load, e_store, e_eqb, e_eqp, e_eqs, e_eqagg, e_conv, e_faddr, e_field, e_extract, e_call, e_mx, mkAt, List.replicate, List.cons_append, List.nil_append, List.append_nil, List.all_cons, List.all_nil, Bool.and_self, Bool.and_true, Bool.true_and, if_true, List.length_nil, List.length_cons, Nat.zero_add, Nat.add_zero, Nat.reduceAdd, Nat.reduceMul, Nat.reduceLeDiff, Nat.le_refl, and_self, and_true, true_and, List.getElem?_cons_zero, List.getElem?_cons_succ, look, mkv, Option.map_some, Option.map_none, Option.bind_some, Bool.false_eq_true, if_false, List.map_cons, List.map_nil, binI, intBin, isShift, unI, reduceCtorEq, fillI, Nat.reduceEqDiff, Int.ofNat_lt, decide_true, decide_false, beq_iff_eq, cellV, List.append_assoc, List.length_append, Bool.not_true, Bool.not_false, h, hle, iaddrV_sl s.ft h, hrd, w501, hmin, hadd, hw]
      exact hn _ (s.ft.l.length - (i + 1)) (by omega) ⟨i + 1, J, rfl, by omega, rfl, rfl, rfl, rfl, by rw [hnx]; rfl, rfl, rfl⟩
  · simp only [Wall, e_nilchk, e_pick, e_box, e_bslice, e_load, e_store, e_eqb, e_eqp, e_eqs, e_eqagg, e_conv, e_faddr, e_field, e_extract, e_call, e_mx, mkAt, List.replicate, List.cons_append, List.nil_append, List.append_nil, List.all_cons, List.all_nil, Bool.and_self, Bool.and_true, Bool.true_and, if_true, List.length_nil, List.length_cons, Nat.zero_add, Nat.add_zero, Nat.reduceAdd, Nat.reduceMul, Nat.reduceLeDiff, Nat.le_refl, and_self, and_true, true_and, List.getElem?_cons_zero, List.getElem?_cons_succ, look, mkv, Option.map_some, Option.map_none, Option.bind_some, Bool.false_eq_true, if_false, List.map_cons, List.map_nil, binI, intBin, isShift, unI, reduceCtorEq, fillI, Nat.reduceEqDiff, Int.ofNat_lt, decide_true, decide_false, beq_iff_eq, cellV, List.append_assoc, List.length_append, Bool.not_true, Bool.not_false, h]
    refine he _ _ ?_
    rw [List.take_of_length_le (by omega)]
    simp only [Wall, e_nilchk, e_pick, e_box, e_bslice, e_load, e_store, e_eqb, e_eqp, e_eqs, e_eqagg, e_conv, e_faddr, e_field, e_extract, e_call, e_mx, mkAt, List.replicate, List.cons_append, List.nil_append, List.append_nil, List.all_cons, List.all_nil, Bool.and_self, Bool.and_true, Bool.true_and, if_true, List.length_nil, List.length_cons, Nat.zero_add, Nat.add_zero, Nat.reduceAdd, Nat.reduceMul, Nat.reduceLeDiff, Nat.le_refl, and_self, and_true, true_and, List.getElem?_cons_zero, List.getElem?_cons_succ, look, mkv, Option.map_some, Option.map_none, Option.bind_some, Bool.false_eq_true, if_false, List.map_cons, List.map_nil, binI, intBin, isShift, unI, reduceCtorEq, fillI, Nat.reduceEqDiff, Int.ofNat_lt, decide_true, decide_false, beq_iff_eq, cellV, List.append_assoc, List.length_append, Bool.not_true, Bool.not_false]
    rw [le500]
theorem few17_spec {s : Sv} (h : few17 s = true) : FewVia s.pl ∧ s.pl.as.l.length ≤ 500 ∧ s.ft.l.length ≤ 500 ∧ ∀ f ∈ s.ft.l, f.parts.l.length ≤ 500 := by
  simp only [few17, few14, Bool.and_eq_true, decide_eq_true_iff] at h
  obtain ⟨⟨h1, h2, h3, h4⟩, h5, h6⟩ := h
  refine ⟨fun a ha => ?_, h2, h5, fun f hf => ?_⟩
  · have h7 : min a.via.l.length 501 ≤ sumC viaC s.pl.as.l := sum_mem (g := viaC) ha
    omega
  · have h7 : min f.parts.l.length 501 ≤ sumC partC s.ft.l := sum_mem (g := partC) hf
    omega
end
end Go.Proofs.YtbfljfjjnijigaaGreatDoor
end
section
namespace Go.Proofs.YtbfljfjjnijigaaGreatDoor
open Go Go.RowKit
set_option maxRecDepth 100000
set_option maxHeartbeats 3200000
theorem gives_sum {F : FuncId → Option IFn} {S : FuncId → List IV → Option IV} {f : FuncId} {args : List IV} {v : IV} (h : S f args = some v) : ∀ m, 1 ≤ m → ∀ d out ownV own id, callN F S m d out ownV own id f args = some (.r, v, own) := fun m hm d out ownV own id => by
  obtain ⟨m, rfl⟩ : ∃ q, m = q + 1 := ⟨m - 1, by omega⟩
  simp only [callN, h]
theorem eqv_int {k : IntKind} {a b : Int} : eqv 1 (.int k a) (.int k b) = some (a == b) := by simp [eqv]
theorem eqbI_b {a b : Bool} : eqbI (.bool a) (.bool b) = some (a == b) := Eq.trans rfl rfl
theorem le04 : decide ((0 : Int) ≤ 4) = true := by decide
theorem le14 : decide ((1 : Int) ≤ 4) = true := by decide
theorem le24 : decide ((2 : Int) ≤ 4) = true := by decide
theorem le34 : decide ((3 : Int) ≤ 4) = true := by decide
theorem le44 : decide ((4 : Int) ≤ 4) = true := by decide
theorem le54 : decide ((5 : Int) ≤ 4) = false := by decide
theorem wrap_3_1 : wrapI .i64 (3 + 1) = 4 := by rw [wrapI_eq]; decide
theorem wrap_4_1 : wrapI .i64 (4 + 1) = 5 := by rw [wrapI_eq]; decide
theorem bne_tt : (true != true) = false := Eq.trans rfl rfl
section
variable {S : FuncId → List IV → Option IV}
theorem users_both (hS : NoS S) (s : Sv) (shape id : Int) (hft : s.ft.l.length ≤ 100000) : ∃ (a b : SlOf 1 intc) (N : Nat), ∀ m, N ≤ m → ∀ d out ownV own i, callN Ftab S m d out ownV own i 14 [.agg s.c, iv shape, iv id] = some (.r, a.v, own) ∧ callN Ftab S m d out ownV own i 15 [.agg s.c, iv shape, iv id] = some (.r, b.v, own) ∧
    callN Ftab S m d out ownV own i 13 [a.v, b.v] = some (.r, .bool true, own) := by
  have main : ∃ (a b : SlOf 1 intc), a.l = b.l ∧ Gives Ftab S 14 [.agg s.c, iv shape, iv id] a.v ∧ Gives Ftab S 15 [.agg s.c, iv shape, iv id] b.v := by
    by_cases h0 : shape = 0
    · subst h0
      exact ⟨nilS _ _, nilS _ _, rfl, gives_users0 hS s id, gives_rusers0 hS s id⟩
    · obtain ⟨a, ha, h1⟩ := gives_users hS s shape id hft h0
      obtain ⟨b, hb, h2⟩ := gives_rusers hS s shape id hft h0
      exact ⟨a, b, ha.trans hb.symm, h1, h2⟩
  obtain ⟨a, b, hab, ⟨N1, h1⟩, ⟨N2, h2⟩⟩ := main
  obtain ⟨N3, h3⟩ := gives_sameInts hS a b
  have he : (a.l == b.l) = true := by simp [hab]
  rw [he] at h3
  exact ⟨a, b, N1 + N2 + N3, fun m hm d out ownV own i => ⟨h1 m (by omega) d out ownV own i, h2 m (by omega) d out ownV own i, h3 m (by omega) d out ownV own i⟩⟩
theorem law_finds (hS : NoS S) (hA : S 5 [] = some (.bool true)) (s : Sv) (id kind : Int) : Gives Ftab S 3 [.agg s.c, iv id, iv kind] (.bool true) := by
  have haw := gives_sum (F := Ftab) hA
  obtain ⟨N0, hN0⟩ := gives_few17 hS s
  cases hfew : few17 s
  · refine gives_fz (i := i3) (k := 1) (hS _ _ (by decide) (by decide) (by decide) (by decide)) rfl rfl fz_bool (N0 + 3) (by omega) fun m hm d out => ?_
    have c0 := fun d out ownV own i => hN0 m (by omega) d out ownV own i
    have ca := fun d out ownV own i => haw m (by omega) d out ownV own i
    simp only [iv_eq, Sv.c, hfew] at c0
    simp only [i3, Wall, e_nilchk, e_pick, e_box, e_bslice, e_load, e_store, e_eqb, e_eqp, e_eqs, e_eqagg, e_conv, e_faddr, e_field, e_extract, e_call, e_mx, mkAt, List.replicate, List.cons_append, List.nil_append, List.append_nil, List.all_cons, List.all_nil, Bool.and_self, Bool.and_true, Bool.true_and, if_true, List.length_nil, List.length_cons, Nat.zero_add, Nat.add_zero, Nat.reduceAdd, Nat.reduceMul, Nat.reduceLeDiff, Nat.le_refl, and_self, and_true, true_and, List.getElem?_cons_zero, List.getElem?_cons_succ, look, mkv, Option.map_some, Option.map_none, Option.bind_some, Bool.false_eq_true, if_false, List.map_cons, List.map_nil, binI, intBin, isShift, unI, reduceCtorEq, fillI, Nat.reduceEqDiff, Int.ofNat_lt, decide_true, decide_false, beq_iff_eq, cellV, List.append_assoc, List.length_append, Bool.not_true, Bool.not_false, Sv.c, c0, ca]
  obtain ⟨hv, has, hft, hpa⟩ := few17_spec hfew
  obtain ⟨q1, hq1, N1, hN1⟩ := gives_find hS s id (fun f hf => by have := hpa f hf; omega)
  obtain ⟨q2, hq2, N2, hN2⟩ := gives_rfind hS s id (fun f hf => by have := hpa f hf; omega)
  obtain ⟨N3, hN3⟩ := gives_bounds hS s id hv (by omega) (fun f hf => by have := hpa f hf; omega)
  obtain ⟨N4, hN4⟩ := gives_rbounds hS s id hv (by omega) (fun f hf => by have := hpa f hf; omega)
  rw [(bounds_same s id).1, (bounds_same s id).2] at hN3
  obtain ⟨N5, hN5⟩ := gives_sameF hS { (s.ft.l.find? fun f => f.id == id).getD zFt with parts := q1 } { (s.ft.l.find? fun f => f.id == id).getD zFt with parts := q2 } ⟨rfl, rfl, rfl, rfl, hq1.trans hq2.symm⟩
  obtain ⟨N6, hN6⟩ := gives_shape hS kind
  obtain ⟨N7, hN7⟩ := gives_rshape hS kind
  obtain ⟨a0, b0, M0, hu0⟩ := users_both hS s 0 id (by omega)
  obtain ⟨a1, b1, M1, hu1⟩ := users_both hS s 1 id (by omega)
  obtain ⟨a2, b2, M2, hu2⟩ := users_both hS s 2 id (by omega)
  obtain ⟨a3, b3, M3, hu3⟩ := users_both hS s 3 id (by omega)
  obtain ⟨a4, b4, M4, hu4⟩ := users_both hS s 4 id (by omega)
  have e1 : ((s.ft.l.find? fun f => f.id == id).getD zFt) = findD s id := rfl
  have e2 : (s.ft.l.find? fun f => f.id == id).isSome = findOk s id := rfl
  refine gives_fz (i := i3) (k := 1) (hS _ _ (by decide) (by decide) (by decide) (by decide)) rfl rfl fz_bool (N0 + N1 + N2 + N3 + N4 + N5 + N6 + N7 + M0 + M1 + M2 + M3 + M4 + 10) (by omega) fun m hm d out => ?_
  have c0 := fun d out ownV own i => hN0 m (by omega) d out ownV own i
  have ca := fun d out ownV own i => haw m (by omega) d out ownV own i
  have c1 := fun d out ownV own i => hN1 m (by omega) d out ownV own i
  have c2 := fun d out ownV own i => hN2 m (by omega) d out ownV own i
  have c3 := fun d out ownV own i => hN3 m (by omega) d out ownV own i
  have c4 := fun d out ownV own i => hN4 m (by omega) d out ownV own i
  have c5 := fun d out ownV own i => hN5 m (by omega) d out ownV own i
  have c6 := fun d out ownV own i => hN6 m (by omega) d out ownV own i
  have c7 := fun d out ownV own i => hN7 m (by omega) d out ownV own i
  have x0 := fun d out ownV own i => (hu0 m (by omega) d out ownV own i).1
  have y0 := fun d out ownV own i => (hu0 m (by omega) d out ownV own i).2.1
  have z0 := fun d out ownV own i => (hu0 m (by omega) d out ownV own i).2.2
  have x1 := fun d out ownV own i => (hu1 m (by omega) d out ownV own i).1
  have y1 := fun d out ownV own i => (hu1 m (by omega) d out ownV own i).2.1
  have z1 := fun d out ownV own i => (hu1 m (by omega) d out ownV own i).2.2
  have x2 := fun d out ownV own i => (hu2 m (by omega) d out ownV own i).1
  have y2 := fun d out ownV own i => (hu2 m (by omega) d out ownV own i).2.1
  have z2 := fun d out ownV own i => (hu2 m (by omega) d out ownV own i).2.2
  have x3 := fun d out ownV own i => (hu3 m (by omega) d out ownV own i).1
  have y3 := fun d out ownV own i => (hu3 m (by omega) d out ownV own i).2.1
  have z3 := fun d out ownV own i => (hu3 m (by omega) d out ownV own i).2.2
  have x4 := fun d out ownV own i => (hu4 m (by omega) d out ownV own i).1
  have y4 := fun d out ownV own i => (hu4 m (by omega) d out ownV own i).2.1
  have z4 := fun d out ownV own i => (hu4 m (by omega) d out ownV own i).2.2
  simp only [e1, e2, iv_eq, Sv.c, Ft.c, hfew] at c0 c1 c2 c3 c4 c5 c6 c7
  simp only [iv_eq, Sv.c] at x0 y0 x1 y1 x2 y2 x3 y3 x4 y4
  obtain ⟨k, rfl⟩ : ∃ k, m = k + 1 + 1 + 1 + 1 + 1 + 1 := ⟨m - 6, by omega⟩
  simp only [i3, Wall, e_nilchk, e_pick, e_box, e_bslice, e_load, e_store, e_eqb, e_eqp, e_eqs, e_eqagg, e_conv, e_faddr, e_field, e_extract, e_call, e_mx, mkAt, List.replicate, List.cons_append, List.nil_append, List.append_nil, List.all_cons, List.all_nil, Bool.and_self, Bool.and_true, Bool.true_and, if_true, List.length_nil, List.length_cons, Nat.zero_add, Nat.add_zero, Nat.reduceAdd, Nat.reduceMul, Nat.reduceLeDiff, Nat.le_refl, and_self, and_true, true_and, List.getElem?_cons_zero, List.getElem?_cons_succ, look, mkv, Option.map_some, Option.map_none, Option.bind_some, Bool.false_eq_true, if_false, List.map_cons, List.map_nil, binI, intBin, isShift, unI, reduceCtorEq, fillI, Nat.reduceEqDiff, Int.ofNat_lt, decide_true, decide_false, beq_iff_eq, cellV, List.append_assoc, List.length_append, Bool.not_true, Bool.not_false, Sv.c, Ft.c, Bx.r, c0, c1, c2, c3, c4, c5, c6, c7, eqvs, eqv_int, eqbI_b, beq_self_eq_true, bne_tt, bne_self_eq_false]
  rw [Ex_loop, Lp_succ]
  simp only [Wall, e_nilchk, e_pick, e_box, e_bslice, e_load, e_store, e_eqb, e_eqp, e_eqs, e_eqagg, e_conv, e_faddr, e_field, e_extract, e_call, e_mx, mkAt, List.replicate, List.cons_append, List.nil_append, List.append_nil, List.all_cons, List.all_nil, Bool.and_self, Bool.and_true, Bool.true_and, if_true, List.length_nil, List.length_cons, Nat.zero_add, Nat.add_zero, Nat.reduceAdd, Nat.reduceMul, Nat.reduceLeDiff, Nat.le_refl, and_self, and_true, true_and, List.getElem?_cons_zero, List.getElem?_cons_succ, look, mkv, Option.map_some, Option.map_none, Option.bind_some, Bool.false_eq_true, if_false, List.map_cons, List.map_nil, binI, intBin, isShift, unI, reduceCtorEq, fillI, Nat.reduceEqDiff, Int.ofNat_lt, decide_true, decide_false, beq_iff_eq, cellV, List.append_assoc, List.length_append, Bool.not_true, Bool.not_false, le04, x0, y0, z0]
  refine ⟨by simp [comm], ?_⟩
  simp only [Wall, e_nilchk, e_pick, e_box, e_bslice, e_load, e_store, e_eqb, e_eqp, e_eqs, e_eqagg, e_conv, e_faddr, e_field, e_extract, e_call, e_mx, mkAt, List.replicate, List.cons_append, List.nil_append, List.append_nil, List.all_cons, List.all_nil, Bool.and_self, Bool.and_true, Bool.true_and, if_true, List.length_nil, List.length_cons, Nat.zero_add, Nat.add_zero, Nat.reduceAdd, Nat.reduceMul, Nat.reduceLeDiff, Nat.le_refl, and_self, and_true, true_and, List.getElem?_cons_zero, List.getElem?_cons_succ, look, mkv, Option.map_some, Option.map_none, Option.bind_some, Bool.false_eq_true, if_false, List.map_cons, List.map_nil, binI, intBin, isShift, unI, reduceCtorEq, fillI, Nat.reduceEqDiff, Int.ofNat_lt, decide_true, decide_false, beq_iff_eq, cellV, List.append_assoc, List.length_append, Bool.not_true, Bool.not_false, wrap_0_1]
  rw [Lp_succ]
  simp only [Wall, e_nilchk, e_pick, e_box, e_bslice, e_load, e_store, e_eqb, e_eqp, e_eqs, e_eqagg, e_conv, e_faddr, e_field, e_extract, e_call, e_mx, mkAt, List.replicate, List.cons_append, List.nil_append, List.append_nil, List.all_cons, List.all_nil, Bool.and_self, Bool.and_true, Bool.true_and, if_true, List.length_nil, List.length_cons, Nat.zero_add, Nat.add_zero, Nat.reduceAdd, Nat.reduceMul, Nat.reduceLeDiff, Nat.le_refl, and_self, and_true, true_and, List.getElem?_cons_zero, List.getElem?_cons_succ, look, mkv, Option.map_some, Option.map_none, Option.bind_some, Bool.false_eq_true, if_false, List.map_cons, List.map_nil, binI, intBin, isShift, unI, reduceCtorEq, fillI, Nat.reduceEqDiff, Int.ofNat_lt, decide_true, decide_false, beq_iff_eq, cellV, List.append_assoc, List.length_append, Bool.not_true, Bool.not_false, le14, x1, y1, z1]
  refine ⟨by simp [comm], ?_⟩
  simp only [Wall, e_nilchk, e_pick, e_box, e_bslice, e_load, e_store, e_eqb, e_eqp, e_eqs, e_eqagg, e_conv, e_faddr, e_field, e_extract, e_call, e_mx, mkAt, List.replicate, List.cons_append, List.nil_append, List.append_nil, List.all_cons, List.all_nil, Bool.and_self, Bool.and_true, Bool.true_and, if_true, List.length_nil, List.length_cons, Nat.zero_add, Nat.add_zero, Nat.reduceAdd, Nat.reduceMul, Nat.reduceLeDiff, Nat.le_refl, and_self, and_true, true_and, List.getElem?_cons_zero, List.getElem?_cons_succ, look, mkv, Option.map_some, Option.map_none, Option.bind_some, Bool.false_eq_true, if_false, List.map_cons, List.map_nil, binI, intBin, isShift, unI, reduceCtorEq, fillI, Nat.reduceEqDiff, Int.ofNat_lt, decide_true, decide_false, beq_iff_eq, cellV, List.append_assoc, List.length_append, Bool.not_true, Bool.not_false, wrap_1_1]
  rw [Lp_succ]
  simp only [Wall, e_nilchk, e_pick, e_box, e_bslice, e_load, e_store, e_eqb, e_eqp, e_eqs, e_eqagg, e_conv, e_faddr, e_field, e_extract, e_call, e_mx, mkAt, List.replicate, List.cons_append, List.nil_append, List.append_nil, List.all_cons, List.all_nil, Bool.and_self, Bool.and_true, Bool.true_and, if_true, List.length_nil, List.length_cons, Nat.zero_add, Nat.add_zero, Nat.reduceAdd, Nat.reduceMul, Nat.reduceLeDiff, Nat.le_refl, and_self, and_true, true_and, List.getElem?_cons_zero, List.getElem?_cons_succ, look, mkv, Option.map_some, Option.map_none, Option.bind_some, Bool.false_eq_true, if_false, List.map_cons, List.map_nil, binI, intBin, isShift, unI, reduceCtorEq, fillI, Nat.reduceEqDiff, Int.ofNat_lt, decide_true, decide_false, beq_iff_eq, cellV, List.append_assoc, List.length_append, Bool.not_true, Bool.not_false, le24, x2, y2, z2]
  refine ⟨by simp [comm], ?_⟩
  simp only [Wall, e_nilchk, e_pick, e_box, e_bslice, e_load, e_store, e_eqb, e_eqp, e_eqs, e_eqagg, e_conv, e_faddr, e_field, e_extract, e_call, e_mx, mkAt, List.replicate, List.cons_append, List.nil_append, List.append_nil, List.all_cons, List.all_nil, Bool.and_self, Bool.and_true, Bool.true_and, if_true, List.length_nil, List.length_cons, Nat.zero_add, Nat.add_zero, Nat.reduceAdd, Nat.reduceMul, Nat.reduceLeDiff, Nat.le_refl, and_self, and_true, true_and, List.getElem?_cons_zero, List.getElem?_cons_succ, look, mkv, Option.map_some, Option.map_none, Option.bind_some, Bool.false_eq_true, if_false, List.map_cons, List.map_nil, binI, intBin, isShift, unI, reduceCtorEq, fillI, Nat.reduceEqDiff, Int.ofNat_lt, decide_true, decide_false, beq_iff_eq, cellV, List.append_assoc, List.length_append, Bool.not_true, Bool.not_false, wrap_2_1]
  rw [Lp_succ]
  simp only [Wall, e_nilchk, e_pick, e_box, e_bslice, e_load, e_store, e_eqb, e_eqp, e_eqs, e_eqagg, e_conv, e_faddr, e_field, e_extract, e_call, e_mx, mkAt, List.replicate, List.cons_append, List.nil_append, List.append_nil, List.all_cons, List.all_nil, Bool.and_self, Bool.and_true, Bool.true_and, if_true, List.length_nil, List.length_cons, Nat.zero_add, Nat.add_zero, Nat.reduceAdd, Nat.reduceMul, Nat.reduceLeDiff, Nat.le_refl, and_self, and_true, true_and, List.getElem?_cons_zero, List.getElem?_cons_succ, look, mkv, Option.map_some, Option.map_none, Option.bind_some, Bool.false_eq_true, if_false, List.map_cons, List.map_nil, binI, intBin, isShift, unI, reduceCtorEq, fillI, Nat.reduceEqDiff, Int.ofNat_lt, decide_true, decide_false, beq_iff_eq, cellV, List.append_assoc, List.length_append, Bool.not_true, Bool.not_false, le34, x3, y3, z3]
  refine ⟨by simp [comm], ?_⟩
  simp only [Wall, e_nilchk, e_pick, e_box, e_bslice, e_load, e_store, e_eqb, e_eqp, e_eqs, e_eqagg, e_conv, e_faddr, e_field, e_extract, e_call, e_mx, mkAt, List.replicate, List.cons_append, List.nil_append, List.append_nil, List.all_cons, List.all_nil, Bool.and_self, Bool.and_true, Bool.true_and, if_true, List.length_nil, List.length_cons, Nat.zero_add, Nat.add_zero, Nat.reduceAdd, Nat.reduceMul, Nat.reduceLeDiff, Nat.le_refl, and_self, and_true, true_and, List.getElem?_cons_zero, List.getElem?_cons_succ, look, mkv, Option.map_some, Option.map_none, Option.bind_some, Bool.false_eq_true, if_false, List.map_cons, List.map_nil, binI, intBin, isShift, unI, reduceCtorEq, fillI, Nat.reduceEqDiff, Int.ofNat_lt, decide_true, decide_false, beq_iff_eq, cellV, List.append_assoc, List.length_append, Bool.not_true, Bool.not_false, wrap_3_1]
  rw [Lp_succ]
  simp only [Wall, e_nilchk, e_pick, e_box, e_bslice, e_load, e_store, e_eqb, e_eqp, e_eqs, e_eqagg, e_conv, e_faddr, e_field, e_extract, e_call, e_mx, mkAt, List.replicate, List.cons_append, List.nil_append, List.append_nil, List.all_cons, List.all_nil, Bool.and_self, Bool.and_true, Bool.true_and, if_true, List.length_nil, List.length_cons, Nat.zero_add, Nat.add_zero, Nat.reduceAdd, Nat.reduceMul, Nat.reduceLeDiff, Nat.le_refl, and_self, and_true, true_and, List.getElem?_cons_zero, List.getElem?_cons_succ, look, mkv, Option.map_some, Option.map_none, Option.bind_some, Bool.false_eq_true, if_false, List.map_cons, List.map_nil, binI, intBin, isShift, unI, reduceCtorEq, fillI, Nat.reduceEqDiff, Int.ofNat_lt, decide_true, decide_false, beq_iff_eq, cellV, List.append_assoc, List.length_append, Bool.not_true, Bool.not_false, le44, x4, y4, z4]
  refine ⟨by simp [comm], ?_⟩
  simp only [Wall, e_nilchk, e_pick, e_box, e_bslice, e_load, e_store, e_eqb, e_eqp, e_eqs, e_eqagg, e_conv, e_faddr, e_field, e_extract, e_call, e_mx, mkAt, List.replicate, List.cons_append, List.nil_append, List.append_nil, List.all_cons, List.all_nil, Bool.and_self, Bool.and_true, Bool.true_and, if_true, List.length_nil, List.length_cons, Nat.zero_add, Nat.add_zero, Nat.reduceAdd, Nat.reduceMul, Nat.reduceLeDiff, Nat.le_refl, and_self, and_true, true_and, List.getElem?_cons_zero, List.getElem?_cons_succ, look, mkv, Option.map_some, Option.map_none, Option.bind_some, Bool.false_eq_true, if_false, List.map_cons, List.map_nil, binI, intBin, isShift, unI, reduceCtorEq, fillI, Nat.reduceEqDiff, Int.ofNat_lt, decide_true, decide_false, beq_iff_eq, cellV, List.append_assoc, List.length_append, Bool.not_true, Bool.not_false, wrap_4_1]
  rw [Lp_succ]
  simp only [Wall, e_nilchk, e_pick, e_box, e_bslice, e_load, e_store, e_eqb, e_eqp, e_eqs, e_eqagg, e_conv, e_faddr, e_field, e_extract, e_call, e_mx, mkAt, List.replicate, List.cons_append, List.nil_append, List.append_nil, List.all_cons, List.all_nil, Bool.and_self, Bool.and_true, Bool.true_and, if_true, List.length_nil, List.length_cons, Nat.zero_add, Nat.add_zero, Nat.reduceAdd, Nat.reduceMul, Nat.reduceLeDiff, Nat.le_refl, and_self, and_true, true_and, List.getElem?_cons_zero, List.getElem?_cons_succ, look, mkv, Option.map_some, Option.map_none, Option.bind_some, Bool.false_eq_true, if_false, List.map_cons, List.map_nil, binI, intBin, isShift, unI, reduceCtorEq, fillI, Nat.reduceEqDiff, Int.ofNat_lt, decide_true, decide_false, beq_iff_eq, cellV, List.append_assoc, List.length_append, Bool.not_true, Bool.not_false, le54, ca]
end
end Go.Proofs.YtbfljfjjnijigaaGreatDoor
end
