/-
  The small machine: Has, Shape, Clone.
-/
import Derived.Test.YtbfljfjjnijigaaGreatDoorMb
import Derived.Test.YtbfljfjjnijigaaGreatDoorFtab
set_option linter.unusedVariables false
set_option linter.unusedSimpArgs false
section
namespace Go.Proofs.YtbfljfjjnijigaaGreatDoor
open Go Go.RowKit
set_option maxRecDepth 100000
def NoS (S : FuncId → List IV → Option IV) : Prop := ∀ f args, f ≠ 35 → f ≠ 5 → f ≠ 41 → f ≠ 29 → S f args = none
theorem contains_app {l : List Int} {x n : Int} : (l ++ [x]).contains n = (l.contains n || x == n) := by
  rw [Bool.eq_iff_iff]
  simp only [List.contains_iff_mem, List.mem_append, List.mem_singleton, Bool.or_eq_true, beq_iff_eq]
  exact ⟨fun h => h.imp id Eq.symm, fun h => h.imp id Eq.symm⟩
theorem contains_at {l : List Int} {x n : Int} {i : Nat} (hx : l[i]? = some x) (hb : (x == n) = true) : l.contains n = true := by
  have := List.mem_of_getElem? hx
  have h2 : x = n := by simpa using hb
  subst h2
  exact List.contains_iff_mem.2 this
section
variable {S : FuncId → List IV → Option IV}
theorem gives_has (hS : NoS S) (l : SlOf 1 intc) (n : Int) : Gives Ftab S 28 [l.v, iv n] (.bool (l.l.contains n)) := by
  refine gives_fz (i := i28) (k := 1) (hS _ _ (by decide) (by decide) (by decide) (by decide)) rfl rfl fz_bool (l.l.length + 2) (by omega) fun m hm d out => ?_
  simp only [i28, Wall, e_nilchk, e_pick, e_box, e_bslice, e_load, e_store, e_eqb, e_eqp, e_eqs, e_eqagg, e_conv, e_faddr, e_field, e_extract, e_call, e_mx, mkAt, List.replicate, List.cons_append, List.nil_append, List.append_nil, List.all_cons, List.all_nil, Bool.and_self, Bool.and_true, Bool.true_and, if_true, List.length_nil, List.length_cons, Nat.zero_add, Nat.add_zero, Nat.reduceAdd, Nat.reduceMul, Nat.reduceLeDiff, Nat.le_refl, and_self, and_true, true_and, List.getElem?_cons_zero, List.getElem?_cons_succ, look, mkv, Option.map_some, Option.map_none, Option.bind_some, Bool.false_eq_true, if_false, List.map_cons, List.map_nil, binI, intBin, isShift, unI, reduceCtorEq, fillI, Nat.reduceEqDiff, Int.ofNat_lt, decide_true, decide_false, beq_iff_eq, cellV, List.append_assoc, List.length_append, Bool.not_true, Bool.not_false]
  refine ex_rounds (fun j st => ∃ i, j = l.l.length - i ∧ i ≤ l.l.length ∧ (l.l.take i).contains n = false ∧ ∃ a2 a3 a6 a7 a8 a9 a10 a11 a12 a13 a14 a15 a16 a17, st = ⟨[l.v, iv n, a2, a3, .bool false, iv i, a6, a7, a8, a9, a10, a11, a12, a13, a14, a15, a16, a17], []⟩) l.l.length (by omega) ⟨0, by omega, by omega, by simp, _, _, _, _, _, _, _, _, _, _, _, _, _, _, rfl⟩ ?_
  rintro j st K ⟨i, rfl, hi, hc, a2, a3, a6, a7, a8, a9, a10, a11, a12, a13, a14, a15, a16, a17, rfl⟩ hn he hr
  by_cases h : i < l.l.length
  · have hx : l.l[i]? = some l.l[i] := List.getElem?_eq_getElem h
    generalize l.l[i] = x at hx
    have hrd : rdN (l.l.flatMap intc) (i * 1) 1 = some [iv x] := rdN_flat intc_len 0 1 hx (by omega)
    have hw : wrapI .i64 ((i : Int) + 1) = ((i + 1 : Nat) : Int) := wrap_succ (by have := l.few; omega)
    cases hb : x == n
    · simp only [Wall, e_nilchk, e_pick, e_box, e_bslice, e_load, e_store, e_eqb, e_eqp, e_eqs, e_eqagg, e_conv, e_faddr, e_field, e_extract, e_call, e_mx, mkAt, List.replicate, List.cons_append, List.nil_append, List.append_nil, List.all_cons, List.all_nil, Bool.and_self, Bool.and_true, Bool.true_and, if_true, List.length_nil, List.length_cons, Nat.zero_add, Nat.add_zero, Nat.reduceAdd, Nat.reduceMul, Nat.reduceLeDiff, Nat.le_refl, and_self, and_true, true_and, List.getElem?_cons_zero, List.getElem?_cons_succ, look, mkv, Option.map_some, Option.map_none, Option.bind_some, Bool.false_eq_true, if_false, List.map_cons, List.map_nil, binI, intBin, isShift, unI, reduceCtorEq, fillI, Nat.reduceEqDiff, Int.ofNat_lt, decide_true, decide_false, beq_iff_eq, cellV, List.append_assoc, List.length_append, Bool.not_true, Bool.not_false, h, iaddrV_sl l h, hrd, hb, hw]
      refine hn _ (l.l.length - (i + 1)) (by omega) ⟨i + 1, rfl, by omega, ?_, _, _, _, _, _, _, _, _, _, _, _, _, _, _, rfl⟩
      rw [List.take_add_one, hx, Option.toList_some, contains_app, hc, hb]
      rfl
    · simp only [Wall, e_nilchk, e_pick, e_box, e_bslice, e_load, e_store, e_eqb, e_eqp, e_eqs, e_eqagg, e_conv, e_faddr, e_field, e_extract, e_call, e_mx, mkAt, List.replicate, List.cons_append, List.nil_append, List.append_nil, List.all_cons, List.all_nil, Bool.and_self, Bool.and_true, Bool.true_and, if_true, List.length_nil, List.length_cons, Nat.zero_add, Nat.add_zero, Nat.reduceAdd, Nat.reduceMul, Nat.reduceLeDiff, Nat.le_refl, and_self, and_true, true_and, List.getElem?_cons_zero, List.getElem?_cons_succ, look, mkv, Option.map_some, Option.map_none, Option.bind_some, Bool.false_eq_true, if_false, List.map_cons, List.map_nil, binI, intBin, isShift, unI, reduceCtorEq, fillI, Nat.reduceEqDiff, Int.ofNat_lt, decide_true, decide_false, beq_iff_eq, cellV, List.append_assoc, List.length_append, Bool.not_true, Bool.not_false, h, iaddrV_sl l h, hrd, hb]
      refine hr _ ?_
      simp only [Wall, e_nilchk, e_pick, e_box, e_bslice, e_load, e_store, e_eqb, e_eqp, e_eqs, e_eqagg, e_conv, e_faddr, e_field, e_extract, e_call, e_mx, mkAt, List.replicate, List.cons_append, List.nil_append, List.append_nil, List.all_cons, List.all_nil, Bool.and_self, Bool.and_true, Bool.true_and, if_true, List.length_nil, List.length_cons, Nat.zero_add, Nat.add_zero, Nat.reduceAdd, Nat.reduceMul, Nat.reduceLeDiff, Nat.le_refl, and_self, and_true, true_and, List.getElem?_cons_zero, List.getElem?_cons_succ, look, mkv, Option.map_some, Option.map_none, Option.bind_some, Bool.false_eq_true, if_false, List.map_cons, List.map_nil, binI, intBin, isShift, unI, reduceCtorEq, fillI, Nat.reduceEqDiff, Int.ofNat_lt, decide_true, decide_false, beq_iff_eq, cellV, List.append_assoc, List.length_append, Bool.not_true, Bool.not_false]
      rw [contains_at hx hb]
  · simp only [Wall, e_nilchk, e_pick, e_box, e_bslice, e_load, e_store, e_eqb, e_eqp, e_eqs, e_eqagg, e_conv, e_faddr, e_field, e_extract, e_call, e_mx, mkAt, List.replicate, List.cons_append, List.nil_append, List.append_nil, List.all_cons, List.all_nil, Bool.and_self, Bool.and_true, Bool.true_and, if_true, List.length_nil, List.length_cons, Nat.zero_add, Nat.add_zero, Nat.reduceAdd, Nat.reduceMul, Nat.reduceLeDiff, Nat.le_refl, and_self, and_true, true_and, List.getElem?_cons_zero, List.getElem?_cons_succ, look, mkv, Option.map_some, Option.map_none, Option.bind_some, Bool.false_eq_true, if_false, List.map_cons, List.map_nil, binI, intBin, isShift, unI, reduceCtorEq, fillI, Nat.reduceEqDiff, Int.ofNat_lt, decide_true, decide_false, beq_iff_eq, cellV, List.append_assoc, List.length_append, Bool.not_true, Bool.not_false, h]
    refine he _ _ ?_
    simp only [Wall, e_nilchk, e_pick, e_box, e_bslice, e_load, e_store, e_eqb, e_eqp, e_eqs, e_eqagg, e_conv, e_faddr, e_field, e_extract, e_call, e_mx, mkAt, List.replicate, List.cons_append, List.nil_append, List.append_nil, List.all_cons, List.all_nil, Bool.and_self, Bool.and_true, Bool.true_and, if_true, List.length_nil, List.length_cons, Nat.zero_add, Nat.add_zero, Nat.reduceAdd, Nat.reduceMul, Nat.reduceLeDiff, Nat.le_refl, and_self, and_true, true_and, List.getElem?_cons_zero, List.getElem?_cons_succ, look, mkv, Option.map_some, Option.map_none, Option.bind_some, Bool.false_eq_true, if_false, List.map_cons, List.map_nil, binI, intBin, isShift, unI, reduceCtorEq, fillI, Nat.reduceEqDiff, Int.ofNat_lt, decide_true, decide_false, beq_iff_eq, cellV, List.append_assoc, List.length_append, Bool.not_true, Bool.not_false]
    rw [← hc, List.take_of_length_le (by omega)]
end
end Go.Proofs.YtbfljfjjnijigaaGreatDoor
end
section
namespace Go.Proofs.YtbfljfjjnijigaaGreatDoor
open Go Go.RowKit
set_option maxRecDepth 100000
section
variable {S : FuncId → List IV → Option IV}
theorem gives_index (hS : NoS S) (l : SlOf 1 intc) (n : Int) : ∃ r : Int, Gives Ftab S 48 [l.v, iv n] (iv r) ∧ decide (r ≥ 0) = l.l.contains n := by
  have key : ∀ r : Int, (∀ i : Nat, (i < l.l.length → (l.l.take i).contains n = false → ∀ x, l.l[i]? = some x → (n == x) = true → r = i)) → (l.l.contains n = false → r = -1) → Gives Ftab S 48 [l.v, iv n] (iv r) := by
    intro r h1 h2
    refine gives_fz (i := i48) (k := 1) (hS _ _ (by decide) (by decide) (by decide) (by decide)) rfl rfl fz_int (l.l.length + 2) (by omega) fun m hm d out => ?_
    simp only [i48, Wall, e_nilchk, e_pick, e_box, e_bslice, e_load, e_store, e_eqb, e_eqp, e_eqs, e_eqagg, e_conv, e_faddr, e_field, e_extract, e_call, e_mx, mkAt, List.replicate, List.cons_append, List.nil_append, List.append_nil, List.all_cons, List.all_nil, Bool.and_self, Bool.and_true, Bool.true_and, if_true, List.length_nil, List.length_cons, Nat.zero_add, Nat.add_zero, Nat.reduceAdd, Nat.reduceMul, Nat.reduceLeDiff, Nat.le_refl, and_self, and_true, true_and, List.getElem?_cons_zero, List.getElem?_cons_succ, look, mkv, Option.map_some, Option.map_none, Option.bind_some, Bool.false_eq_true, if_false, List.map_cons, List.map_nil, binI, intBin, isShift, unI, reduceCtorEq, fillI, Nat.reduceEqDiff, Int.ofNat_lt, decide_true, decide_false, beq_iff_eq, cellV, List.append_assoc, List.length_append, Bool.not_true, Bool.not_false]
    refine ex_rounds (fun j st => ∃ i, j = l.l.length - i ∧ i ≤ l.l.length ∧ (l.l.take i).contains n = false ∧ ∃ a2 a3 a4 a5 a9 a10 a11 a12 a13 a14 a15 a16 a17 a18, st = ⟨[l.v, iv n, a2, a3, a4, a5, l.v, iv (l.l.length : Nat), iv i, a9, a10, a11, a12, a13, a14, a15, a16, a17, a18], []⟩) l.l.length (by omega) ⟨0, by omega, by omega, by simp, _, _, _, _, _, _, _, _, _, _, _, _, _, _, rfl⟩ ?_
    rintro j st K ⟨i, rfl, hi, hc, a2, a3, a4, a5, a9, a10, a11, a12, a13, a14, a15, a16, a17, a18, rfl⟩ hn he hr
    by_cases h : i < l.l.length
    · have hx : l.l[i]? = some l.l[i] := List.getElem?_eq_getElem h
      generalize l.l[i] = x at hx
      have hrd : rdN (l.l.flatMap intc) (i * 1) 1 = some [iv x] := rdN_flat intc_len 0 1 hx (by omega)
      have hw : wrapI .i64 ((i : Int) + 1) = ((i + 1 : Nat) : Int) := wrap_succ (by have := l.few; omega)
      cases hb : n == x
      · simp only [Wall, e_nilchk, e_pick, e_box, e_bslice, e_load, e_store, e_eqb, e_eqp, e_eqs, e_eqagg, e_conv, e_faddr, e_field, e_extract, e_call, e_mx, mkAt, List.replicate, List.cons_append, List.nil_append, List.append_nil, List.all_cons, List.all_nil, Bool.and_self, Bool.and_true, Bool.true_and, if_true, List.length_nil, List.length_cons, Nat.zero_add, Nat.add_zero, Nat.reduceAdd, Nat.reduceMul, Nat.reduceLeDiff, Nat.le_refl, and_self, and_true, true_and, List.getElem?_cons_zero, List.getElem?_cons_succ, look, mkv, Option.map_some, Option.map_none, Option.bind_some, Bool.false_eq_true, if_false, List.map_cons, List.map_nil, binI, intBin, isShift, unI, reduceCtorEq, fillI, Nat.reduceEqDiff, Int.ofNat_lt, decide_true, decide_false, beq_iff_eq, cellV, List.append_assoc, List.length_append, Bool.not_true, Bool.not_false, h, iaddrV_sl l h, hrd, hb, hw]
        refine hn _ (l.l.length - (i + 1)) (by omega) ⟨i + 1, rfl, by omega, ?_, _, _, _, _, _, _, _, _, _, _, _, _, _, _, rfl⟩
        rw [List.take_add_one, hx, Option.toList_some, contains_app, hc, Bool.beq_comm, hb]
        rfl
      · simp only [Wall, e_nilchk, e_pick, e_box, e_bslice, e_load, e_store, e_eqb, e_eqp, e_eqs, e_eqagg, e_conv, e_faddr, e_field, e_extract, e_call, e_mx, mkAt, List.replicate, List.cons_append, List.nil_append, List.append_nil, List.all_cons, List.all_nil, Bool.and_self, Bool.and_true, Bool.true_and, if_true, List.length_nil, List.length_cons, Nat.zero_add, Nat.add_zero, Nat.reduceAdd, Nat.reduceMul, Nat.reduceLeDiff, Nat.le_refl, and_self, and_true, true_and, List.getElem?_cons_zero, List.getElem?_cons_succ, look, mkv, Option.map_some, Option.map_none, Option.bind_some, Bool.false_eq_true, if_false, List.map_cons, List.map_nil, binI, intBin, isShift, unI, reduceCtorEq, fillI, Nat.reduceEqDiff, Int.ofNat_lt, decide_true, decide_false, beq_iff_eq, cellV, List.append_assoc, List.length_append, Bool.not_true, Bool.not_false, h, iaddrV_sl l h, hrd, hb]
        refine hr _ ?_
        simp only [Wall, e_nilchk, e_pick, e_box, e_bslice, e_load, e_store, e_eqb, e_eqp, e_eqs, e_eqagg, e_conv, e_faddr, e_field, e_extract, e_call, e_mx, mkAt, List.replicate, List.cons_append, List.nil_append, List.append_nil, List.all_cons, List.all_nil, Bool.and_self, Bool.and_true, Bool.true_and, if_true, List.length_nil, List.length_cons, Nat.zero_add, Nat.add_zero, Nat.reduceAdd, Nat.reduceMul, Nat.reduceLeDiff, Nat.le_refl, and_self, and_true, true_and, List.getElem?_cons_zero, List.getElem?_cons_succ, look, mkv, Option.map_some, Option.map_none, Option.bind_some, Bool.false_eq_true, if_false, List.map_cons, List.map_nil, binI, intBin, isShift, unI, reduceCtorEq, fillI, Nat.reduceEqDiff, Int.ofNat_lt, decide_true, decide_false, beq_iff_eq, cellV, List.append_assoc, List.length_append, Bool.not_true, Bool.not_false]
        rw [h1 i h hc x hx hb]
    · simp only [Wall, e_nilchk, e_pick, e_box, e_bslice, e_load, e_store, e_eqb, e_eqp, e_eqs, e_eqagg, e_conv, e_faddr, e_field, e_extract, e_call, e_mx, mkAt, List.replicate, List.cons_append, List.nil_append, List.append_nil, List.all_cons, List.all_nil, Bool.and_self, Bool.and_true, Bool.true_and, if_true, List.length_nil, List.length_cons, Nat.zero_add, Nat.add_zero, Nat.reduceAdd, Nat.reduceMul, Nat.reduceLeDiff, Nat.le_refl, and_self, and_true, true_and, List.getElem?_cons_zero, List.getElem?_cons_succ, look, mkv, Option.map_some, Option.map_none, Option.bind_some, Bool.false_eq_true, if_false, List.map_cons, List.map_nil, binI, intBin, isShift, unI, reduceCtorEq, fillI, Nat.reduceEqDiff, Int.ofNat_lt, decide_true, decide_false, beq_iff_eq, cellV, List.append_assoc, List.length_append, Bool.not_true, Bool.not_false, h]
      refine he _ _ ?_
      simp only [Wall, e_nilchk, e_pick, e_box, e_bslice, e_load, e_store, e_eqb, e_eqp, e_eqs, e_eqagg, e_conv, e_faddr, e_field, e_extract, e_call, e_mx, mkAt, List.replicate, List.cons_append, List.nil_append, List.append_nil, List.all_cons, List.all_nil, Bool.and_self, Bool.and_true, Bool.true_and, if_true, List.length_nil, List.length_cons, Nat.zero_add, Nat.add_zero, Nat.reduceAdd, Nat.reduceMul, Nat.reduceLeDiff, Nat.le_refl, and_self, and_true, true_and, List.getElem?_cons_zero, List.getElem?_cons_succ, look, mkv, Option.map_some, Option.map_none, Option.bind_some, Bool.false_eq_true, if_false, List.map_cons, List.map_nil, binI, intBin, isShift, unI, reduceCtorEq, fillI, Nat.reduceEqDiff, Int.ofNat_lt, decide_true, decide_false, beq_iff_eq, cellV, List.append_assoc, List.length_append, Bool.not_true, Bool.not_false]
      rw [h2 (by rw [← hc, List.take_of_length_le (by omega)])]
  cases hc : l.l.contains n
  · refine ⟨-1, key _ (fun i hi _ x hx hb => ?_) (fun _ => rfl), by simp⟩
    rw [contains_at hx (by rw [Bool.beq_comm]; exact hb)] at hc
    simp at hc
  · have hm : n ∈ l.l := List.contains_iff_mem.1 hc
    refine ⟨(l.l.idxOf n : Nat), key _ (fun i hi ht x hx hb => ?_) (fun h => by rw [h] at hc; simp at hc), by simp⟩
    have hxn : n = x := by simpa using hb
    subst hxn
    have h1 : l.l = l.l.take i ++ n :: l.l.drop (i + 1) := by
      conv => lhs; rw [← List.take_append_drop i l.l]
      congr 1
      rw [List.drop_eq_getElem_cons hi]
      congr 1
      have := List.getElem?_eq_getElem hi
      rw [hx] at this
      exact (Option.some.inj this).symm
    have h2 : n ∉ l.l.take i := fun h => by rw [List.contains_iff_mem.2 h] at ht; simp at ht
    rw [h1, List.idxOf_append, if_neg h2, List.idxOf_cons_self, List.length_take, Nat.zero_add, Nat.min_eq_left (by omega)]
theorem gives_contains (hS : NoS S) (l : SlOf 1 intc) (n : Int) : Gives Ftab S 25 [l.v, iv n] (.bool (l.l.contains n)) := by
  obtain ⟨r, ⟨N, hN⟩, hr⟩ := gives_index hS l n
  refine gives_fz (i := i25) (k := 1) (hS _ _ (by decide) (by decide) (by decide) (by decide)) rfl rfl fz_bool (N + 1) (by omega) fun m hm d out => ?_
  have hcall := fun d out ownV own id => hN m (by omega) d out ownV own id
  simp only [iv_eq] at hcall
  simp only [i25, Wall, e_nilchk, e_pick, e_box, e_bslice, e_load, e_store, e_eqb, e_eqp, e_eqs, e_eqagg, e_conv, e_faddr, e_field, e_extract, e_call, e_mx, mkAt, List.replicate, List.cons_append, List.nil_append, List.append_nil, List.all_cons, List.all_nil, Bool.and_self, Bool.and_true, Bool.true_and, if_true, List.length_nil, List.length_cons, Nat.zero_add, Nat.add_zero, Nat.reduceAdd, Nat.reduceMul, Nat.reduceLeDiff, Nat.le_refl, and_self, and_true, true_and, List.getElem?_cons_zero, List.getElem?_cons_succ, look, mkv, Option.map_some, Option.map_none, Option.bind_some, Bool.false_eq_true, if_false, List.map_cons, List.map_nil, binI, intBin, isShift, unI, reduceCtorEq, fillI, Nat.reduceEqDiff, Int.ofNat_lt, decide_true, decide_false, beq_iff_eq, cellV, List.append_assoc, List.length_append, Bool.not_true, Bool.not_false, hcall]
  rw [hr]
theorem gives_sameInts (hS : NoS S) (a b : SlOf 1 intc) : Gives Ftab S 13 [a.v, b.v] (.bool (a.l == b.l)) := by
  refine gives_fz (i := i13) (k := 1) (hS _ _ (by decide) (by decide) (by decide) (by decide)) rfl rfl fz_bool (a.l.length + 2) (by omega) fun m hm d out => ?_
  by_cases hlen : a.l.length = b.l.length
  · have hlb : ((a.l.length : Int) != (b.l.length : Int)) = false := by simp [hlen]
    simp only [i13, Wall, e_nilchk, e_pick, e_box, e_bslice, e_load, e_store, e_eqb, e_eqp, e_eqs, e_eqagg, e_conv, e_faddr, e_field, e_extract, e_call, e_mx, mkAt, List.replicate, List.cons_append, List.nil_append, List.append_nil, List.all_cons, List.all_nil, Bool.and_self, Bool.and_true, Bool.true_and, if_true, List.length_nil, List.length_cons, Nat.zero_add, Nat.add_zero, Nat.reduceAdd, Nat.reduceMul, Nat.reduceLeDiff, Nat.le_refl, and_self, and_true, true_and, List.getElem?_cons_zero, List.getElem?_cons_succ, look, mkv, Option.map_some, Option.map_none, Option.bind_some, Bool.false_eq_true, if_false, List.map_cons, List.map_nil, binI, intBin, isShift, unI, reduceCtorEq, fillI, Nat.reduceEqDiff, Int.ofNat_lt, decide_true, decide_false, beq_iff_eq, cellV, List.append_assoc, List.length_append, Bool.not_true, Bool.not_false, hlb]
    refine ex_rounds (fun j st => ∃ i, j = a.l.length - i ∧ i ≤ a.l.length ∧ a.l.take i = b.l.take i ∧ ∃ a2 a3 a6 a7 a8 a9 a10 a11 a12 a13 a14 a15 a16 a17 a18 a19 a20 a21 a22 a23 a24 a25, st = ⟨[a.v, b.v, a2, a3, .bool false, iv i, a6, a7, a8, a9, a10, a11, a12, a13, a14, a15, a16, a17, a18, a19, a20, a21, a22, a23, a24, a25], []⟩) a.l.length (by omega) ⟨0, by omega, by omega, by simp, _, _, _, _, _, _, _, _, _, _, _, _, _, _, _, _, _, _, _, _, _, _, rfl⟩ ?_
    rintro j st K ⟨i, rfl, hi, hc, a2, a3, a6, a7, a8, a9, a10, a11, a12, a13, a14, a15, a16, a17, a18, a19, a20, a21, a22, a23, a24, a25, rfl⟩ hn he hr
    by_cases h : i < a.l.length
    · have h' : i < b.l.length := by omega
      have hx : a.l[i]? = some a.l[i] := List.getElem?_eq_getElem h
      have hy : b.l[i]? = some b.l[i] := List.getElem?_eq_getElem h'
      generalize a.l[i] = x at hx
      generalize b.l[i] = y at hy
      have hrd : rdN (a.l.flatMap intc) (i * 1) 1 = some [iv x] := rdN_flat intc_len 0 1 hx (by omega)
      have hrd' : rdN (b.l.flatMap intc) (i * 1) 1 = some [iv y] := rdN_flat intc_len 0 1 hy (by omega)
      have hw : wrapI .i64 ((i : Int) + 1) = ((i + 1 : Nat) : Int) := wrap_succ (by have := a.few; omega)
      cases hb : x != y
      · simp only [Wall, e_nilchk, e_pick, e_box, e_bslice, e_load, e_store, e_eqb, e_eqp, e_eqs, e_eqagg, e_conv, e_faddr, e_field, e_extract, e_call, e_mx, mkAt, List.replicate, List.cons_append, List.nil_append, List.append_nil, List.all_cons, List.all_nil, Bool.and_self, Bool.and_true, Bool.true_and, if_true, List.length_nil, List.length_cons, Nat.zero_add, Nat.add_zero, Nat.reduceAdd, Nat.reduceMul, Nat.reduceLeDiff, Nat.le_refl, and_self, and_true, true_and, List.getElem?_cons_zero, List.getElem?_cons_succ, look, mkv, Option.map_some, Option.map_none, Option.bind_some, Bool.false_eq_true, if_false, List.map_cons, List.map_nil, binI, intBin, isShift, unI, reduceCtorEq, fillI, Nat.reduceEqDiff, Int.ofNat_lt, decide_true, decide_false, beq_iff_eq, cellV, List.append_assoc, List.length_append, Bool.not_true, Bool.not_false, h, iaddrV_sl a h, iaddrV_sl b h', hrd, hrd', hb, hw]
        refine ⟨rfl, ?_⟩
        simp only [Wall, e_nilchk, e_pick, e_box, e_bslice, e_load, e_store, e_eqb, e_eqp, e_eqs, e_eqagg, e_conv, e_faddr, e_field, e_extract, e_call, e_mx, mkAt, List.replicate, List.cons_append, List.nil_append, List.append_nil, List.all_cons, List.all_nil, Bool.and_self, Bool.and_true, Bool.true_and, if_true, List.length_nil, List.length_cons, Nat.zero_add, Nat.add_zero, Nat.reduceAdd, Nat.reduceMul, Nat.reduceLeDiff, Nat.le_refl, and_self, and_true, true_and, List.getElem?_cons_zero, List.getElem?_cons_succ, look, mkv, Option.map_some, Option.map_none, Option.bind_some, Bool.false_eq_true, if_false, List.map_cons, List.map_nil, binI, intBin, isShift, unI, reduceCtorEq, fillI, Nat.reduceEqDiff, Int.ofNat_lt, decide_true, decide_false, beq_iff_eq, cellV, List.append_assoc, List.length_append, Bool.not_true, Bool.not_false, hw]
        refine hn _ (a.l.length - (i + 1)) (by omega) ⟨i + 1, rfl, by omega, ?_, _, _, _, _, _, _, _, _, _, _, _, _, _, _, _, _, _, _, _, _, _, _, rfl⟩
        have hxy : x = y := by simpa using hb
        rw [List.take_add_one, List.take_add_one, hx, hy, hc, hxy]
      · simp only [Wall, e_nilchk, e_pick, e_box, e_bslice, e_load, e_store, e_eqb, e_eqp, e_eqs, e_eqagg, e_conv, e_faddr, e_field, e_extract, e_call, e_mx, mkAt, List.replicate, List.cons_append, List.nil_append, List.append_nil, List.all_cons, List.all_nil, Bool.and_self, Bool.and_true, Bool.true_and, if_true, List.length_nil, List.length_cons, Nat.zero_add, Nat.add_zero, Nat.reduceAdd, Nat.reduceMul, Nat.reduceLeDiff, Nat.le_refl, and_self, and_true, true_and, List.getElem?_cons_zero, List.getElem?_cons_succ, look, mkv, Option.map_some, Option.map_none, Option.bind_some, Bool.false_eq_true, if_false, List.map_cons, List.map_nil, binI, intBin, isShift, unI, reduceCtorEq, fillI, Nat.reduceEqDiff, Int.ofNat_lt, decide_true, decide_false, beq_iff_eq, cellV, List.append_assoc, List.length_append, Bool.not_true, Bool.not_false, h, iaddrV_sl a h, iaddrV_sl b h', hrd, hrd', hb]
        refine ⟨rfl, ?_⟩
        simp only [Wall, e_nilchk, e_pick, e_box, e_bslice, e_load, e_store, e_eqb, e_eqp, e_eqs, e_eqagg, e_conv, e_faddr, e_field, e_extract, e_call, e_mx, mkAt, List.replicate, List.cons_append, List.nil_append, List.append_nil, List.all_cons, List.all_nil, Bool.and_self, Bool.and_true, Bool.true_and, if_true, List.length_nil, List.length_cons, Nat.zero_add, Nat.add_zero, Nat.reduceAdd, Nat.reduceMul, Nat.reduceLeDiff, Nat.le_refl, and_self, and_true, true_and, List.getElem?_cons_zero, List.getElem?_cons_succ, look, mkv, Option.map_some, Option.map_none, Option.bind_some, Bool.false_eq_true, if_false, List.map_cons, List.map_nil, binI, intBin, isShift, unI, reduceCtorEq, fillI, Nat.reduceEqDiff, Int.ofNat_lt, decide_true, decide_false, beq_iff_eq, cellV, List.append_assoc, List.length_append, Bool.not_true, Bool.not_false]
        refine hr _ ?_
        simp only [Wall, e_nilchk, e_pick, e_box, e_bslice, e_load, e_store, e_eqb, e_eqp, e_eqs, e_eqagg, e_conv, e_faddr, e_field, e_extract, e_call, e_mx, mkAt, List.replicate, List.cons_append, List.nil_append, List.append_nil, List.all_cons, List.all_nil, Bool.and_self, Bool.and_true, Bool.true_and, if_true, List.length_nil, List.length_cons, Nat.zero_add, Nat.add_zero, Nat.reduceAdd, Nat.reduceMul, Nat.reduceLeDiff, Nat.le_refl, and_self, and_true, true_and, List.getElem?_cons_zero, List.getElem?_cons_succ, look, mkv, Option.map_some, Option.map_none, Option.bind_some, Bool.false_eq_true, if_false, List.map_cons, List.map_nil, binI, intBin, isShift, unI, reduceCtorEq, fillI, Nat.reduceEqDiff, Int.ofNat_lt, decide_true, decide_false, beq_iff_eq, cellV, List.append_assoc, List.length_append, Bool.not_true, Bool.not_false]
        have hne : (a.l == b.l) = false := by
          rw [Bool.eq_false_iff]
          intro he
          have he2 : a.l = b.l := by simpa using he
          rw [he2, hy] at hx
          cases hx
          simp at hb
        rw [hne]
    · simp only [Wall, e_nilchk, e_pick, e_box, e_bslice, e_load, e_store, e_eqb, e_eqp, e_eqs, e_eqagg, e_conv, e_faddr, e_field, e_extract, e_call, e_mx, mkAt, List.replicate, List.cons_append, List.nil_append, List.append_nil, List.all_cons, List.all_nil, Bool.and_self, Bool.and_true, Bool.true_and, if_true, List.length_nil, List.length_cons, Nat.zero_add, Nat.add_zero, Nat.reduceAdd, Nat.reduceMul, Nat.reduceLeDiff, Nat.le_refl, and_self, and_true, true_and, List.getElem?_cons_zero, List.getElem?_cons_succ, look, mkv, Option.map_some, Option.map_none, Option.bind_some, Bool.false_eq_true, if_false, List.map_cons, List.map_nil, binI, intBin, isShift, unI, reduceCtorEq, fillI, Nat.reduceEqDiff, Int.ofNat_lt, decide_true, decide_false, beq_iff_eq, cellV, List.append_assoc, List.length_append, Bool.not_true, Bool.not_false, h]
      refine he _ _ ?_
      simp only [Wall, e_nilchk, e_pick, e_box, e_bslice, e_load, e_store, e_eqb, e_eqp, e_eqs, e_eqagg, e_conv, e_faddr, e_field, e_extract, e_call, e_mx, mkAt, List.replicate, List.cons_append, List.nil_append, List.append_nil, List.all_cons, List.all_nil, Bool.and_self, Bool.and_true, Bool.true_and, if_true, List.length_nil, List.length_cons, Nat.zero_add, Nat.add_zero, Nat.reduceAdd, Nat.reduceMul, Nat.reduceLeDiff, Nat.le_refl, and_self, and_true, true_and, List.getElem?_cons_zero, List.getElem?_cons_succ, look, mkv, Option.map_some, Option.map_none, Option.bind_some, Bool.false_eq_true, if_false, List.map_cons, List.map_nil, binI, intBin, isShift, unI, reduceCtorEq, fillI, Nat.reduceEqDiff, Int.ofNat_lt, decide_true, decide_false, beq_iff_eq, cellV, List.append_assoc, List.length_append, Bool.not_true, Bool.not_false]
      have hee : (a.l == b.l) = true := by
        rw [List.take_of_length_le (by omega), List.take_of_length_le (by omega)] at hc
        simp [hc]
      rw [hee]
  · have hlb : ((a.l.length : Int) != (b.l.length : Int)) = true := by simp; omega
    simp only [i13, Wall, e_nilchk, e_pick, e_box, e_bslice, e_load, e_store, e_eqb, e_eqp, e_eqs, e_eqagg, e_conv, e_faddr, e_field, e_extract, e_call, e_mx, mkAt, List.replicate, List.cons_append, List.nil_append, List.append_nil, List.all_cons, List.all_nil, Bool.and_self, Bool.and_true, Bool.true_and, if_true, List.length_nil, List.length_cons, Nat.zero_add, Nat.add_zero, Nat.reduceAdd, Nat.reduceMul, Nat.reduceLeDiff, Nat.le_refl, and_self, and_true, true_and, List.getElem?_cons_zero, List.getElem?_cons_succ, look, mkv, Option.map_some, Option.map_none, Option.bind_some, Bool.false_eq_true, if_false, List.map_cons, List.map_nil, binI, intBin, isShift, unI, reduceCtorEq, fillI, Nat.reduceEqDiff, Int.ofNat_lt, decide_true, decide_false, beq_iff_eq, cellV, List.append_assoc, List.length_append, Bool.not_true, Bool.not_false, hlb]
    have hne : (a.l == b.l) = false := by
      rw [Bool.eq_false_iff]
      intro he
      exact hlen (by rw [show a.l = b.l by simpa using he])
    rw [hne]
end
end Go.Proofs.YtbfljfjjnijigaaGreatDoor
end
section
namespace Go.Proofs.YtbfljfjjnijigaaGreatDoor
open Go Go.RowKit
set_option maxRecDepth 100000
def shapeI (k : Int) : Int := bif k == 1 || k == 2 || k == 8 then 1 else bif k == 3 || k == 4 then 2 else bif k == 5 || k == 6 || k == 7 then 3 else 0
theorem intc_fz : ∀ a, ∀ x ∈ intc a, Fz 1 x := fun a x hx => by
  simp only [intc, List.mem_singleton] at hx
  subst hx
  exact fz_int
theorem ptc_fz : ∀ a : Pt, ∀ x ∈ a.c, Fz 1 x := fun a x hx => by
  simp only [Pt.c, List.mem_cons, List.not_mem_nil, or_false] at hx
  rcases hx with rfl | rfl <;> exact fz_int
section
variable {C : Call} {d : Nat} {out : Nat → List IObj} {n0 : Nat} {own ownV : List IObj} {t : List IV}
noncomputable def appV (d n0 : Nat) (lk : Nat → Nat → Option IObj) (own : List IObj) (sz : Nat) (s : IV) (slot : Nat) (r : Option (List IV × Nat)) : Res := match r with
  | some (new, n) => appendI d n0 lk own sz s new n slot
  | none => none
theorem app_src {z : List IV} {sz : Nat} {s x : Opd} {slot : Nat} : e_append d out n0 ownV own t z sz false s x slot = appV d n0 (look d out ownV) own sz (ρ t s) slot (cellsI (look d out ownV) sz (ρ t x)) := Eq.trans rfl rfl
theorem app_ok {lk : Nat → Nat → Option IObj} {sz slot n : Nat} {s : IV} {new : List IV} : appV d n0 lk own sz s slot (some (new, n)) = appendI d n0 lk own sz s new n slot := Eq.trans rfl rfl
theorem app_row {lk : Nat → Nat → Option IObj} {sz slot n : Nat} {new : List IV} (h : n ≠ 0) (hb : 0 + n ≤ 1073741824) : appendI d n0 lk own sz (.slC [] 0 sz true) new n slot = mkAt own (n0 + slot) (.cells new) (.slM d (n0 + slot) 0 n n sz false) := by
  unfold appendI
  rw [if_neg h]
  simp only
  rw [if_pos ⟨by unfold bound; omega, trivial⟩]
  simp [seg, lit_eq]
theorem eqs_tt : (false != true) = true := Eq.trans rfl rfl
theorem eqs_tf : (false != false) = false := Eq.trans rfl rfl
end
section
variable {S : FuncId → List IV → Option IV}
theorem gives_shape (hS : NoS S) (k : Int) : Gives Ftab S 11 [iv k] (iv (shapeI k)) := by
  refine gives_fz (i := i11) (k := 1) (hS _ _ (by decide) (by decide) (by decide) (by decide)) rfl rfl fz_int 1 (by omega) fun m hm d out => ?_
  cases h1 : k == 1
  rotate_left
  · simp only [i11, Wall, e_nilchk, e_pick, e_box, e_bslice, e_load, e_store, e_eqb, e_eqp, e_eqs, e_eqagg, e_conv, e_faddr, e_field, e_extract, e_call, e_mx, mkAt, List.replicate, List.cons_append, List.nil_append, List.append_nil, List.all_cons, List.all_nil, Bool.and_self, Bool.and_true, Bool.true_and, if_true, List.length_nil, List.length_cons, Nat.zero_add, Nat.add_zero, Nat.reduceAdd, Nat.reduceMul, Nat.reduceLeDiff, Nat.le_refl, and_self, and_true, true_and, List.getElem?_cons_zero, List.getElem?_cons_succ, look, mkv, Option.map_some, Option.map_none, Option.bind_some, Bool.false_eq_true, if_false, List.map_cons, List.map_nil, binI, intBin, isShift, unI, reduceCtorEq, fillI, Nat.reduceEqDiff, Int.ofNat_lt, decide_true, decide_false, beq_iff_eq, cellV, List.append_assoc, List.length_append, Bool.not_true, Bool.not_false, h1]
    simp only [shapeI, h1, Wall, e_nilchk, e_pick, e_box, e_bslice, e_load, e_store, e_eqb, e_eqp, e_eqs, e_eqagg, e_conv, e_faddr, e_field, e_extract, e_call, e_mx, mkAt, List.replicate, List.cons_append, List.nil_append, List.append_nil, List.all_cons, List.all_nil, Bool.and_self, Bool.and_true, Bool.true_and, if_true, List.length_nil, List.length_cons, Nat.zero_add, Nat.add_zero, Nat.reduceAdd, Nat.reduceMul, Nat.reduceLeDiff, Nat.le_refl, and_self, and_true, true_and, List.getElem?_cons_zero, List.getElem?_cons_succ, look, mkv, Option.map_some, Option.map_none, Option.bind_some, Bool.false_eq_true, if_false, List.map_cons, List.map_nil, binI, intBin, isShift, unI, reduceCtorEq, fillI, Nat.reduceEqDiff, Int.ofNat_lt, decide_true, decide_false, beq_iff_eq, cellV, List.append_assoc, List.length_append, Bool.not_true, Bool.not_false]
    rfl
  cases h2 : k == 2
  rotate_left
  · simp only [i11, Wall, e_nilchk, e_pick, e_box, e_bslice, e_load, e_store, e_eqb, e_eqp, e_eqs, e_eqagg, e_conv, e_faddr, e_field, e_extract, e_call, e_mx, mkAt, List.replicate, List.cons_append, List.nil_append, List.append_nil, List.all_cons, List.all_nil, Bool.and_self, Bool.and_true, Bool.true_and, if_true, List.length_nil, List.length_cons, Nat.zero_add, Nat.add_zero, Nat.reduceAdd, Nat.reduceMul, Nat.reduceLeDiff, Nat.le_refl, and_self, and_true, true_and, List.getElem?_cons_zero, List.getElem?_cons_succ, look, mkv, Option.map_some, Option.map_none, Option.bind_some, Bool.false_eq_true, if_false, List.map_cons, List.map_nil, binI, intBin, isShift, unI, reduceCtorEq, fillI, Nat.reduceEqDiff, Int.ofNat_lt, decide_true, decide_false, beq_iff_eq, cellV, List.append_assoc, List.length_append, Bool.not_true, Bool.not_false, h1, h2]
    simp only [shapeI, h1, h2, Wall, e_nilchk, e_pick, e_box, e_bslice, e_load, e_store, e_eqb, e_eqp, e_eqs, e_eqagg, e_conv, e_faddr, e_field, e_extract, e_call, e_mx, mkAt, List.replicate, List.cons_append, List.nil_append, List.append_nil, List.all_cons, List.all_nil, Bool.and_self, Bool.and_true, Bool.true_and, if_true, List.length_nil, List.length_cons, Nat.zero_add, Nat.add_zero, Nat.reduceAdd, Nat.reduceMul, Nat.reduceLeDiff, Nat.le_refl, and_self, and_true, true_and, List.getElem?_cons_zero, List.getElem?_cons_succ, look, mkv, Option.map_some, Option.map_none, Option.bind_some, Bool.false_eq_true, if_false, List.map_cons, List.map_nil, binI, intBin, isShift, unI, reduceCtorEq, fillI, Nat.reduceEqDiff, Int.ofNat_lt, decide_true, decide_false, beq_iff_eq, cellV, List.append_assoc, List.length_append, Bool.not_true, Bool.not_false]
    rfl
  cases h8 : k == 8
  rotate_left
  · simp only [i11, Wall, e_nilchk, e_pick, e_box, e_bslice, e_load, e_store, e_eqb, e_eqp, e_eqs, e_eqagg, e_conv, e_faddr, e_field, e_extract, e_call, e_mx, mkAt, List.replicate, List.cons_append, List.nil_append, List.append_nil, List.all_cons, List.all_nil, Bool.and_self, Bool.and_true, Bool.true_and, if_true, List.length_nil, List.length_cons, Nat.zero_add, Nat.add_zero, Nat.reduceAdd, Nat.reduceMul, Nat.reduceLeDiff, Nat.le_refl, and_self, and_true, true_and, List.getElem?_cons_zero, List.getElem?_cons_succ, look, mkv, Option.map_some, Option.map_none, Option.bind_some, Bool.false_eq_true, if_false, List.map_cons, List.map_nil, binI, intBin, isShift, unI, reduceCtorEq, fillI, Nat.reduceEqDiff, Int.ofNat_lt, decide_true, decide_false, beq_iff_eq, cellV, List.append_assoc, List.length_append, Bool.not_true, Bool.not_false, h1, h2, h8]
    simp only [shapeI, h1, h2, h8, Wall, e_nilchk, e_pick, e_box, e_bslice, e_load, e_store, e_eqb, e_eqp, e_eqs, e_eqagg, e_conv, e_faddr, e_field, e_extract, e_call, e_mx, mkAt, List.replicate, List.cons_append, List.nil_append, List.append_nil, List.all_cons, List.all_nil, Bool.and_self, Bool.and_true, Bool.true_and, if_true, List.length_nil, List.length_cons, Nat.zero_add, Nat.add_zero, Nat.reduceAdd, Nat.reduceMul, Nat.reduceLeDiff, Nat.le_refl, and_self, and_true, true_and, List.getElem?_cons_zero, List.getElem?_cons_succ, look, mkv, Option.map_some, Option.map_none, Option.bind_some, Bool.false_eq_true, if_false, List.map_cons, List.map_nil, binI, intBin, isShift, unI, reduceCtorEq, fillI, Nat.reduceEqDiff, Int.ofNat_lt, decide_true, decide_false, beq_iff_eq, cellV, List.append_assoc, List.length_append, Bool.not_true, Bool.not_false]
    rfl
  cases h3 : k == 3
  rotate_left
  · simp only [i11, Wall, e_nilchk, e_pick, e_box, e_bslice, e_load, e_store, e_eqb, e_eqp, e_eqs, e_eqagg, e_conv, e_faddr, e_field, e_extract, e_call, e_mx, mkAt, List.replicate, List.cons_append, List.nil_append, List.append_nil, List.all_cons, List.all_nil, Bool.and_self, Bool.and_true, Bool.true_and, if_true, List.length_nil, List.length_cons, Nat.zero_add, Nat.add_zero, Nat.reduceAdd, Nat.reduceMul, Nat.reduceLeDiff, Nat.le_refl, and_self, and_true, true_and, List.getElem?_cons_zero, List.getElem?_cons_succ, look, mkv, Option.map_some, Option.map_none, Option.bind_some, Bool.false_eq_true, if_false, List.map_cons, List.map_nil, binI, intBin, isShift, unI, reduceCtorEq, fillI, Nat.reduceEqDiff, Int.ofNat_lt, decide_true, decide_false, beq_iff_eq, cellV, List.append_assoc, List.length_append, Bool.not_true, Bool.not_false, h1, h2, h8, h3]
    simp only [shapeI, h1, h2, h8, h3, Wall, e_nilchk, e_pick, e_box, e_bslice, e_load, e_store, e_eqb, e_eqp, e_eqs, e_eqagg, e_conv, e_faddr, e_field, e_extract, e_call, e_mx, mkAt, List.replicate, List.cons_append, List.nil_append, List.append_nil, List.all_cons, List.all_nil, Bool.and_self, Bool.and_true, Bool.true_and, if_true, List.length_nil, List.length_cons, Nat.zero_add, Nat.add_zero, Nat.reduceAdd, Nat.reduceMul, Nat.reduceLeDiff, Nat.le_refl, and_self, and_true, true_and, List.getElem?_cons_zero, List.getElem?_cons_succ, look, mkv, Option.map_some, Option.map_none, Option.bind_some, Bool.false_eq_true, if_false, List.map_cons, List.map_nil, binI, intBin, isShift, unI, reduceCtorEq, fillI, Nat.reduceEqDiff, Int.ofNat_lt, decide_true, decide_false, beq_iff_eq, cellV, List.append_assoc, List.length_append, Bool.not_true, Bool.not_false]
    rfl
  cases h4 : k == 4
  rotate_left
  · simp only [i11, Wall, e_nilchk, e_pick, e_box, e_bslice, e_load, e_store, e_eqb, e_eqp, e_eqs, e_eqagg, e_conv, e_faddr, e_field, e_extract, e_call, e_mx, mkAt, List.replicate, List.cons_append, List.nil_append, List.append_nil, List.all_cons, List.all_nil, Bool.and_self, Bool.and_true, Bool.true_and, if_true, List.length_nil, List.length_cons, Nat.zero_add, Nat.add_zero, Nat.reduceAdd, Nat.reduceMul, Nat.reduceLeDiff, Nat.le_refl, and_self, and_true, true_and, List.getElem?_cons_zero, List.getElem?_cons_succ, look, mkv, Option.map_some, Option.map_none, Option.bind_some, Bool.false_eq_true, if_false, List.map_cons, List.map_nil, binI, intBin, isShift, unI, reduceCtorEq, fillI, Nat.reduceEqDiff, Int.ofNat_lt, decide_true, decide_false, beq_iff_eq, cellV, List.append_assoc, List.length_append, Bool.not_true, Bool.not_false, h1, h2, h8, h3, h4]
    simp only [shapeI, h1, h2, h8, h3, h4, Wall, e_nilchk, e_pick, e_box, e_bslice, e_load, e_store, e_eqb, e_eqp, e_eqs, e_eqagg, e_conv, e_faddr, e_field, e_extract, e_call, e_mx, mkAt, List.replicate, List.cons_append, List.nil_append, List.append_nil, List.all_cons, List.all_nil, Bool.and_self, Bool.and_true, Bool.true_and, if_true, List.length_nil, List.length_cons, Nat.zero_add, Nat.add_zero, Nat.reduceAdd, Nat.reduceMul, Nat.reduceLeDiff, Nat.le_refl, and_self, and_true, true_and, List.getElem?_cons_zero, List.getElem?_cons_succ, look, mkv, Option.map_some, Option.map_none, Option.bind_some, Bool.false_eq_true, if_false, List.map_cons, List.map_nil, binI, intBin, isShift, unI, reduceCtorEq, fillI, Nat.reduceEqDiff, Int.ofNat_lt, decide_true, decide_false, beq_iff_eq, cellV, List.append_assoc, List.length_append, Bool.not_true, Bool.not_false]
    rfl
  cases h5 : k == 5
  rotate_left
  · simp only [i11, Wall, e_nilchk, e_pick, e_box, e_bslice, e_load, e_store, e_eqb, e_eqp, e_eqs, e_eqagg, e_conv, e_faddr, e_field, e_extract, e_call, e_mx, mkAt, List.replicate, List.cons_append, List.nil_append, List.append_nil, List.all_cons, List.all_nil, Bool.and_self, Bool.and_true, Bool.true_and, if_true, List.length_nil, List.length_cons, Nat.zero_add, Nat.add_zero, Nat.reduceAdd, Nat.reduceMul, Nat.reduceLeDiff, Nat.le_refl, and_self, and_true, true_and, List.getElem?_cons_zero, List.getElem?_cons_succ, look, mkv, Option.map_some, Option.map_none, Option.bind_some, Bool.false_eq_true, if_false, List.map_cons, List.map_nil, binI, intBin, isShift, unI, reduceCtorEq, fillI, Nat.reduceEqDiff, Int.ofNat_lt, decide_true, decide_false, beq_iff_eq, cellV, List.append_assoc, List.length_append, Bool.not_true, Bool.not_false, h1, h2, h8, h3, h4, h5]
    simp only [shapeI, h1, h2, h8, h3, h4, h5, Wall, e_nilchk, e_pick, e_box, e_bslice, e_load, e_store, e_eqb, e_eqp, e_eqs, e_eqagg, e_conv, e_faddr, e_field, e_extract, e_call, e_mx, mkAt, List.replicate, List.cons_append, List.nil_append, List.append_nil, List.all_cons, List.all_nil, Bool.and_self, Bool.and_true, Bool.true_and, if_true, List.length_nil, List.length_cons, Nat.zero_add, Nat.add_zero, Nat.reduceAdd, Nat.reduceMul, Nat.reduceLeDiff, Nat.le_refl, and_self, and_true, true_and, List.getElem?_cons_zero, List.getElem?_cons_succ, look, mkv, Option.map_some, Option.map_none, Option.bind_some, Bool.false_eq_true, if_false, List.map_cons, List.map_nil, binI, intBin, isShift, unI, reduceCtorEq, fillI, Nat.reduceEqDiff, Int.ofNat_lt, decide_true, decide_false, beq_iff_eq, cellV, List.append_assoc, List.length_append, Bool.not_true, Bool.not_false]
    rfl
  cases h6 : k == 6
  rotate_left
  · simp only [i11, Wall, e_nilchk, e_pick, e_box, e_bslice, e_load, e_store, e_eqb, e_eqp, e_eqs, e_eqagg, e_conv, e_faddr, e_field, e_extract, e_call, e_mx, mkAt, List.replicate, List.cons_append, List.nil_append, List.append_nil, List.all_cons, List.all_nil, Bool.and_self, Bool.and_true, Bool.true_and, if_true, List.length_nil, List.length_cons, Nat.zero_add, Nat.add_zero, Nat.reduceAdd, Nat.reduceMul, Nat.reduceLeDiff, Nat.le_refl, and_self, and_true, true_and, List.getElem?_cons_zero, List.getElem?_cons_succ, look, mkv, Option.map_some, Option.map_none, Option.bind_some, Bool.false_eq_true, if_false, List.map_cons, List.map_nil, binI, intBin, isShift, unI, reduceCtorEq, fillI, Nat.reduceEqDiff, Int.ofNat_lt, decide_true, decide_false, beq_iff_eq, cellV, List.append_assoc, List.length_append, Bool.not_true, Bool.not_false, h1, h2, h8, h3, h4, h5, h6]
    simp only [shapeI, h1, h2, h8, h3, h4, h5, h6, Wall, e_nilchk, e_pick, e_box, e_bslice, e_load, e_store, e_eqb, e_eqp, e_eqs, e_eqagg, e_conv, e_faddr, e_field, e_extract, e_call, e_mx, mkAt, List.replicate, List.cons_append, List.nil_append, List.append_nil, List.all_cons, List.all_nil, Bool.and_self, Bool.and_true, Bool.true_and, if_true, List.length_nil, List.length_cons, Nat.zero_add, Nat.add_zero, Nat.reduceAdd, Nat.reduceMul, Nat.reduceLeDiff, Nat.le_refl, and_self, and_true, true_and, List.getElem?_cons_zero, List.getElem?_cons_succ, look, mkv, Option.map_some, Option.map_none, Option.bind_some, Bool.false_eq_true, if_false, List.map_cons, List.map_nil, binI, intBin, isShift, unI, reduceCtorEq, fillI, Nat.reduceEqDiff, Int.ofNat_lt, decide_true, decide_false, beq_iff_eq, cellV, List.append_assoc, List.length_append, Bool.not_true, Bool.not_false]
    rfl
  cases h7 : k == 7
  rotate_left
  · simp only [i11, Wall, e_nilchk, e_pick, e_box, e_bslice, e_load, e_store, e_eqb, e_eqp, e_eqs, e_eqagg, e_conv, e_faddr, e_field, e_extract, e_call, e_mx, mkAt, List.replicate, List.cons_append, List.nil_append, List.append_nil, List.all_cons, List.all_nil, Bool.and_self, Bool.and_true, Bool.true_and, if_true, List.length_nil, List.length_cons, Nat.zero_add, Nat.add_zero, Nat.reduceAdd, Nat.reduceMul, Nat.reduceLeDiff, Nat.le_refl, and_self, and_true, true_and, List.getElem?_cons_zero, List.getElem?_cons_succ, look, mkv, Option.map_some, Option.map_none, Option.bind_some, Bool.false_eq_true, if_false, List.map_cons, List.map_nil, binI, intBin, isShift, unI, reduceCtorEq, fillI, Nat.reduceEqDiff, Int.ofNat_lt, decide_true, decide_false, beq_iff_eq, cellV, List.append_assoc, List.length_append, Bool.not_true, Bool.not_false, h1, h2, h8, h3, h4, h5, h6, h7]
    simp only [shapeI, h1, h2, h8, h3, h4, h5, h6, h7, Wall, e_nilchk, e_pick, e_box, e_bslice, e_load, e_store, e_eqb, e_eqp, e_eqs, e_eqagg, e_conv, e_faddr, e_field, e_extract, e_call, e_mx, mkAt, List.replicate, List.cons_append, List.nil_append, List.append_nil, List.all_cons, List.all_nil, Bool.and_self, Bool.and_true, Bool.true_and, if_true, List.length_nil, List.length_cons, Nat.zero_add, Nat.add_zero, Nat.reduceAdd, Nat.reduceMul, Nat.reduceLeDiff, Nat.le_refl, and_self, and_true, true_and, List.getElem?_cons_zero, List.getElem?_cons_succ, look, mkv, Option.map_some, Option.map_none, Option.bind_some, Bool.false_eq_true, if_false, List.map_cons, List.map_nil, binI, intBin, isShift, unI, reduceCtorEq, fillI, Nat.reduceEqDiff, Int.ofNat_lt, decide_true, decide_false, beq_iff_eq, cellV, List.append_assoc, List.length_append, Bool.not_true, Bool.not_false]
    rfl
  · simp only [i11, Wall, e_nilchk, e_pick, e_box, e_bslice, e_load, e_store, e_eqb, e_eqp, e_eqs, e_eqagg, e_conv, e_faddr, e_field, e_extract, e_call, e_mx, mkAt, List.replicate, List.cons_append, List.nil_append, List.append_nil, List.all_cons, List.all_nil, Bool.and_self, Bool.and_true, Bool.true_and, if_true, List.length_nil, List.length_cons, Nat.zero_add, Nat.add_zero, Nat.reduceAdd, Nat.reduceMul, Nat.reduceLeDiff, Nat.le_refl, and_self, and_true, true_and, List.getElem?_cons_zero, List.getElem?_cons_succ, look, mkv, Option.map_some, Option.map_none, Option.bind_some, Bool.false_eq_true, if_false, List.map_cons, List.map_nil, binI, intBin, isShift, unI, reduceCtorEq, fillI, Nat.reduceEqDiff, Int.ofNat_lt, decide_true, decide_false, beq_iff_eq, cellV, List.append_assoc, List.length_append, Bool.not_true, Bool.not_false, h1, h2, h8, h3, h4, h5, h6, h7]
    simp only [shapeI, h1, h2, h8, h3, h4, h5, h6, h7, Wall, e_nilchk, e_pick, e_box, e_bslice, e_load, e_store, e_eqb, e_eqp, e_eqs, e_eqagg, e_conv, e_faddr, e_field, e_extract, e_call, e_mx, mkAt, List.replicate, List.cons_append, List.nil_append, List.append_nil, List.all_cons, List.all_nil, Bool.and_self, Bool.and_true, Bool.true_and, if_true, List.length_nil, List.length_cons, Nat.zero_add, Nat.add_zero, Nat.reduceAdd, Nat.reduceMul, Nat.reduceLeDiff, Nat.le_refl, and_self, and_true, true_and, List.getElem?_cons_zero, List.getElem?_cons_succ, look, mkv, Option.map_some, Option.map_none, Option.bind_some, Bool.false_eq_true, if_false, List.map_cons, List.map_nil, binI, intBin, isShift, unI, reduceCtorEq, fillI, Nat.reduceEqDiff, Int.ofNat_lt, decide_true, decide_false, beq_iff_eq, cellV, List.append_assoc, List.length_append, Bool.not_true, Bool.not_false]
    rfl
theorem gives_rshape (hS : NoS S) (k : Int) : Gives Ftab S 12 [iv k] (iv (shapeI k)) := by
  refine gives_fz (i := i12) (k := 1) (hS _ _ (by decide) (by decide) (by decide) (by decide)) rfl rfl fz_int 1 (by omega) fun m hm d out => ?_
  cases h1 : k == 1
  rotate_left
  · simp only [i12, Wall, e_nilchk, e_pick, e_box, e_bslice, e_load, e_store, e_eqb, e_eqp, e_eqs, e_eqagg, e_conv, e_faddr, e_field, e_extract, e_call, e_mx, mkAt, List.replicate, List.cons_append, List.nil_append, List.append_nil, List.all_cons, List.all_nil, Bool.and_self, Bool.and_true, Bool.true_and, if_true, List.length_nil, List.length_cons, Nat.zero_add, Nat.add_zero, Nat.reduceAdd, Nat.reduceMul, Nat.reduceLeDiff, Nat.le_refl, and_self, and_true, true_and, List.getElem?_cons_zero, List.getElem?_cons_succ, look, mkv, Option.map_some, Option.map_none, Option.bind_some, Bool.false_eq_true, if_false, List.map_cons, List.map_nil, binI, intBin, isShift, unI, reduceCtorEq, fillI, Nat.reduceEqDiff, Int.ofNat_lt, decide_true, decide_false, beq_iff_eq, cellV, List.append_assoc, List.length_append, Bool.not_true, Bool.not_false, h1]
    simp only [shapeI, h1, Wall, e_nilchk, e_pick, e_box, e_bslice, e_load, e_store, e_eqb, e_eqp, e_eqs, e_eqagg, e_conv, e_faddr, e_field, e_extract, e_call, e_mx, mkAt, List.replicate, List.cons_append, List.nil_append, List.append_nil, List.all_cons, List.all_nil, Bool.and_self, Bool.and_true, Bool.true_and, if_true, List.length_nil, List.length_cons, Nat.zero_add, Nat.add_zero, Nat.reduceAdd, Nat.reduceMul, Nat.reduceLeDiff, Nat.le_refl, and_self, and_true, true_and, List.getElem?_cons_zero, List.getElem?_cons_succ, look, mkv, Option.map_some, Option.map_none, Option.bind_some, Bool.false_eq_true, if_false, List.map_cons, List.map_nil, binI, intBin, isShift, unI, reduceCtorEq, fillI, Nat.reduceEqDiff, Int.ofNat_lt, decide_true, decide_false, beq_iff_eq, cellV, List.append_assoc, List.length_append, Bool.not_true, Bool.not_false]
    rfl
  cases h2 : k == 2
  rotate_left
  · simp only [i12, Wall, e_nilchk, e_pick, e_box, e_bslice, e_load, e_store, e_eqb, e_eqp, e_eqs, e_eqagg, e_conv, e_faddr, e_field, e_extract, e_call, e_mx, mkAt, List.replicate, List.cons_append, List.nil_append, List.append_nil, List.all_cons, List.all_nil, Bool.and_self, Bool.and_true, Bool.true_and, if_true, List.length_nil, List.length_cons, Nat.zero_add, Nat.add_zero, Nat.reduceAdd, Nat.reduceMul, Nat.reduceLeDiff, Nat.le_refl, and_self, and_true, true_and, List.getElem?_cons_zero, List.getElem?_cons_succ, look, mkv, Option.map_some, Option.map_none, Option.bind_some, Bool.false_eq_true, if_false, List.map_cons, List.map_nil, binI, intBin, isShift, unI, reduceCtorEq, fillI, Nat.reduceEqDiff, Int.ofNat_lt, decide_true, decide_false, beq_iff_eq, cellV, List.append_assoc, List.length_append, Bool.not_true, Bool.not_false, h1, h2]
    simp only [shapeI, h1, h2, Wall, e_nilchk, e_pick, e_box, e_bslice, e_load, e_store, e_eqb, e_eqp, e_eqs, e_eqagg, e_conv, e_faddr, e_field, e_extract, e_call, e_mx, mkAt, List.replicate, List.cons_append, List.nil_append, List.append_nil, List.all_cons, List.all_nil, Bool.and_self, Bool.and_true, Bool.true_and, if_true, List.length_nil, List.length_cons, Nat.zero_add, Nat.add_zero, Nat.reduceAdd, Nat.reduceMul, Nat.reduceLeDiff, Nat.le_refl, and_self, and_true, true_and, List.getElem?_cons_zero, List.getElem?_cons_succ, look, mkv, Option.map_some, Option.map_none, Option.bind_some, Bool.false_eq_true, if_false, List.map_cons, List.map_nil, binI, intBin, isShift, unI, reduceCtorEq, fillI, Nat.reduceEqDiff, Int.ofNat_lt, decide_true, decide_false, beq_iff_eq, cellV, List.append_assoc, List.length_append, Bool.not_true, Bool.not_false]
    rfl
  cases h8 : k == 8
  rotate_left
  · simp only [i12, Wall, e_nilchk, e_pick, e_box, e_bslice, e_load, e_store, e_eqb, e_eqp, e_eqs, e_eqagg, e_conv, e_faddr, e_field, e_extract, e_call, e_mx, mkAt, List.replicate, List.cons_append, List.nil_append, List.append_nil, List.all_cons, List.all_nil, Bool.and_self, Bool.and_true, Bool.true_and, if_true, List.length_nil, List.length_cons, Nat.zero_add, Nat.add_zero, Nat.reduceAdd, Nat.reduceMul, Nat.reduceLeDiff, Nat.le_refl, and_self, and_true, true_and, List.getElem?_cons_zero, List.getElem?_cons_succ, look, mkv, Option.map_some, Option.map_none, Option.bind_some, Bool.false_eq_true, if_false, List.map_cons, List.map_nil, binI, intBin, isShift, unI, reduceCtorEq, fillI, Nat.reduceEqDiff, Int.ofNat_lt, decide_true, decide_false, beq_iff_eq, cellV, List.append_assoc, List.length_append, Bool.not_true, Bool.not_false, h1, h2, h8]
    simp only [shapeI, h1, h2, h8, Wall, e_nilchk, e_pick, e_box, e_bslice, e_load, e_store, e_eqb, e_eqp, e_eqs, e_eqagg, e_conv, e_faddr, e_field, e_extract, e_call, e_mx, mkAt, List.replicate, List.cons_append, List.nil_append, List.append_nil, List.all_cons, List.all_nil, Bool.and_self, Bool.and_true, Bool.true_and, if_true, List.length_nil, List.length_cons, Nat.zero_add, Nat.add_zero, Nat.reduceAdd, Nat.reduceMul, Nat.reduceLeDiff, Nat.le_refl, and_self, and_true, true_and, List.getElem?_cons_zero, List.getElem?_cons_succ, look, mkv, Option.map_some, Option.map_none, Option.bind_some, Bool.false_eq_true, if_false, List.map_cons, List.map_nil, binI, intBin, isShift, unI, reduceCtorEq, fillI, Nat.reduceEqDiff, Int.ofNat_lt, decide_true, decide_false, beq_iff_eq, cellV, List.append_assoc, List.length_append, Bool.not_true, Bool.not_false]
    rfl
  cases h3 : k == 3
  rotate_left
  · simp only [i12, Wall, e_nilchk, e_pick, e_box, e_bslice, e_load, e_store, e_eqb, e_eqp, e_eqs, e_eqagg, e_conv, e_faddr, e_field, e_extract, e_call, e_mx, mkAt, List.replicate, List.cons_append, List.nil_append, List.append_nil, List.all_cons, List.all_nil, Bool.and_self, Bool.and_true, Bool.true_and, if_true, List.length_nil, List.length_cons, Nat.zero_add, Nat.add_zero, Nat.reduceAdd, Nat.reduceMul, Nat.reduceLeDiff, Nat.le_refl, and_self, and_true, true_and, List.getElem?_cons_zero, List.getElem?_cons_succ, look, mkv, Option.map_some, Option.map_none, Option.bind_some, Bool.false_eq_true, if_false, List.map_cons, List.map_nil, binI, intBin, isShift, unI, reduceCtorEq, fillI, Nat.reduceEqDiff, Int.ofNat_lt, decide_true, decide_false, beq_iff_eq, cellV, List.append_assoc, List.length_append, Bool.not_true, Bool.not_false, h1, h2, h8, h3]
    simp only [shapeI, h1, h2, h8, h3, Wall, e_nilchk, e_pick, e_box, e_bslice, e_load, e_store, e_eqb, e_eqp, e_eqs, e_eqagg, e_conv, e_faddr, e_field, e_extract, e_call, e_mx, mkAt, List.replicate, List.cons_append, List.nil_append, List.append_nil, List.all_cons, List.all_nil, Bool.and_self, Bool.and_true, Bool.true_and, if_true, List.length_nil, List.length_cons, Nat.zero_add, Nat.add_zero, Nat.reduceAdd, Nat.reduceMul, Nat.reduceLeDiff, Nat.le_refl, and_self, and_true, true_and, List.getElem?_cons_zero, List.getElem?_cons_succ, look, mkv, Option.map_some, Option.map_none, Option.bind_some, Bool.false_eq_true, if_false, List.map_cons, List.map_nil, binI, intBin, isShift, unI, reduceCtorEq, fillI, Nat.reduceEqDiff, Int.ofNat_lt, decide_true, decide_false, beq_iff_eq, cellV, List.append_assoc, List.length_append, Bool.not_true, Bool.not_false]
    rfl
  cases h4 : k == 4
  rotate_left
  · simp only [i12, Wall, e_nilchk, e_pick, e_box, e_bslice, e_load, e_store, e_eqb, e_eqp, e_eqs, e_eqagg, e_conv, e_faddr, e_field, e_extract, e_call, e_mx, mkAt, List.replicate, List.cons_append, List.nil_append, List.append_nil, List.all_cons, List.all_nil, Bool.and_self, Bool.and_true, Bool.true_and, if_true, List.length_nil, List.length_cons, Nat.zero_add, Nat.add_zero, Nat.reduceAdd, Nat.reduceMul, Nat.reduceLeDiff, Nat.le_refl, and_self, and_true, true_and, List.getElem?_cons_zero, List.getElem?_cons_succ, look, mkv, Option.map_some, Option.map_none, Option.bind_some, Bool.false_eq_true, if_false, List.map_cons, List.map_nil, binI, intBin, isShift, unI, reduceCtorEq, fillI, Nat.reduceEqDiff, Int.ofNat_lt, decide_true, decide_false, beq_iff_eq, cellV, List.append_assoc, List.length_append, Bool.not_true, Bool.not_false, h1, h2, h8, h3, h4]
    simp only [shapeI, h1, h2, h8, h3, h4, Wall, e_nilchk, e_pick, e_box, e_bslice, e_load, e_store, e_eqb, e_eqp, e_eqs, e_eqagg, e_conv, e_faddr, e_field, e_extract, e_call, e_mx, mkAt, List.replicate, List.cons_append, List.nil_append, List.append_nil, List.all_cons, List.all_nil, Bool.and_self, Bool.and_true, Bool.true_and, if_true, List.length_nil, List.length_cons, Nat.zero_add, Nat.add_zero, Nat.reduceAdd, Nat.reduceMul, Nat.reduceLeDiff, Nat.le_refl, and_self, and_true, true_and, List.getElem?_cons_zero, List.getElem?_cons_succ, look, mkv, Option.map_some, Option.map_none, Option.bind_some, Bool.false_eq_true, if_false, List.map_cons, List.map_nil, binI, intBin, isShift, unI, reduceCtorEq, fillI, Nat.reduceEqDiff, Int.ofNat_lt, decide_true, decide_false, beq_iff_eq, cellV, List.append_assoc, List.length_append, Bool.not_true, Bool.not_false]
    rfl
  cases h5 : k == 5
  rotate_left
  · simp only [i12, Wall, e_nilchk, e_pick, e_box, e_bslice, e_load, e_store, e_eqb, e_eqp, e_eqs, e_eqagg, e_conv, e_faddr, e_field, e_extract, e_call, e_mx, mkAt, List.replicate, List.cons_append, List.nil_append, List.append_nil, List.all_cons, List.all_nil, Bool.and_self, Bool.and_true, Bool.true_and, if_true, List.length_nil, List.length_cons, Nat.zero_add, Nat.add_zero, Nat.reduceAdd, Nat.reduceMul, Nat.reduceLeDiff, Nat.le_refl, and_self, and_true, true_and, List.getElem?_cons_zero, List.getElem?_cons_succ, look, mkv, Option.map_some, Option.map_none, Option.bind_some, Bool.false_eq_true, if_false, List.map_cons, List.map_nil, binI, intBin, isShift, unI, reduceCtorEq, fillI, Nat.reduceEqDiff, Int.ofNat_lt, decide_true, decide_false, beq_iff_eq, cellV, List.append_assoc, List.length_append, Bool.not_true, Bool.not_false, h1, h2, h8, h3, h4, h5]
    simp only [shapeI, h1, h2, h8, h3, h4, h5, Wall, e_nilchk, e_pick, e_box, e_bslice, e_load, e_store, e_eqb, e_eqp, e_eqs, e_eqagg, e_conv, e_faddr, e_field, e_extract, e_call, e_mx, mkAt, List.replicate, List.cons_append, List.nil_append, List.append_nil, List.all_cons, List.all_nil, Bool.and_self, Bool.and_true, Bool.true_and, if_true, List.length_nil, List.length_cons, Nat.zero_add, Nat.add_zero, Nat.reduceAdd, Nat.reduceMul, Nat.reduceLeDiff, Nat.le_refl, and_self, and_true, true_and, List.getElem?_cons_zero, List.getElem?_cons_succ, look, mkv, Option.map_some, Option.map_none, Option.bind_some, Bool.false_eq_true, if_false, List.map_cons, List.map_nil, binI, intBin, isShift, unI, reduceCtorEq, fillI, Nat.reduceEqDiff, Int.ofNat_lt, decide_true, decide_false, beq_iff_eq, cellV, List.append_assoc, List.length_append, Bool.not_true, Bool.not_false]
    rfl
  cases h6 : k == 6
  rotate_left
  · simp only [i12, Wall, e_nilchk, e_pick, e_box, e_bslice, e_load, e_store, e_eqb, e_eqp, e_eqs, e_eqagg, e_conv, e_faddr, e_field, e_extract, e_call, e_mx, mkAt, List.replicate, List.cons_append, List.nil_append, List.append_nil, List.all_cons, List.all_nil, Bool.and_self, Bool.and_true, Bool.true_and, if_true, List.length_nil, List.length_cons, Nat.zero_add, Nat.add_zero, Nat.reduceAdd, Nat.reduceMul, Nat.reduceLeDiff, Nat.le_refl, and_self, and_true, true_and, List.getElem?_cons_zero, List.getElem?_cons_succ, look, mkv, Option.map_some, Option.map_none, Option.bind_some, Bool.false_eq_true, if_false, List.map_cons, List.map_nil, binI, intBin, isShift, unI, reduceCtorEq, fillI, Nat.reduceEqDiff, Int.ofNat_lt, decide_true, decide_false, beq_iff_eq, cellV, List.append_assoc, List.length_append, Bool.not_true, Bool.not_false, h1, h2, h8, h3, h4, h5, h6]
    simp only [shapeI, h1, h2, h8, h3, h4, h5, h6, Wall, e_nilchk, e_pick, e_box, e_bslice, e_load, e_store, e_eqb, e_eqp, e_eqs, e_eqagg, e_conv, e_faddr, e_field, e_extract, e_call, e_mx, mkAt, List.replicate, List.cons_append, List.nil_append, List.append_nil, List.all_cons, List.all_nil, Bool.and_self, Bool.and_true, Bool.true_and, if_true, List.length_nil, List.length_cons, Nat.zero_add, Nat.add_zero, Nat.reduceAdd, Nat.reduceMul, Nat.reduceLeDiff, Nat.le_refl, and_self, and_true, true_and, List.getElem?_cons_zero, List.getElem?_cons_succ, look, mkv, Option.map_some, Option.map_none, Option.bind_some, Bool.false_eq_true, if_false, List.map_cons, List.map_nil, binI, intBin, isShift, unI, reduceCtorEq, fillI, Nat.reduceEqDiff, Int.ofNat_lt, decide_true, decide_false, beq_iff_eq, cellV, List.append_assoc, List.length_append, Bool.not_true, Bool.not_false]
    rfl
  cases h7 : k == 7
  rotate_left
  · simp only [i12, Wall, e_nilchk, e_pick, e_box, e_bslice, e_load, e_store, e_eqb, e_eqp, e_eqs, e_eqagg, e_conv, e_faddr, e_field, e_extract, e_call, e_mx, mkAt, List.replicate, List.cons_append, List.nil_append, List.append_nil, List.all_cons, List.all_nil, Bool.and_self, Bool.and_true, Bool.true_and, if_true, List.length_nil, List.length_cons, Nat.zero_add, Nat.add_zero, Nat.reduceAdd, Nat.reduceMul, Nat.reduceLeDiff, Nat.le_refl, and_self, and_true, true_and, List.getElem?_cons_zero, List.getElem?_cons_succ, look, mkv, Option.map_some, Option.map_none, Option.bind_some, Bool.false_eq_true, if_false, List.map_cons, List.map_nil, binI, intBin, isShift, unI, reduceCtorEq, fillI, Nat.reduceEqDiff, Int.ofNat_lt, decide_true, decide_false, beq_iff_eq, cellV, List.append_assoc, List.length_append, Bool.not_true, Bool.not_false, h1, h2, h8, h3, h4, h5, h6, h7]
    simp only [shapeI, h1, h2, h8, h3, h4, h5, h6, h7, Wall, e_nilchk, e_pick, e_box, e_bslice, e_load, e_store, e_eqb, e_eqp, e_eqs, e_eqagg, e_conv, e_faddr, e_field, e_extract, e_call, e_mx, mkAt, List.replicate, List.cons_append, List.nil_append, List.append_nil, List.all_cons, List.all_nil, Bool.and_self, Bool.and_true, Bool.true_and, if_true, List.length_nil, List.length_cons, Nat.zero_add, Nat.add_zero, Nat.reduceAdd, Nat.reduceMul, Nat.reduceLeDiff, Nat.le_refl, and_self, and_true, true_and, List.getElem?_cons_zero, List.getElem?_cons_succ, look, mkv, Option.map_some, Option.map_none, Option.bind_some, Bool.false_eq_true, if_false, List.map_cons, List.map_nil, binI, intBin, isShift, unI, reduceCtorEq, fillI, Nat.reduceEqDiff, Int.ofNat_lt, decide_true, decide_false, beq_iff_eq, cellV, List.append_assoc, List.length_append, Bool.not_true, Bool.not_false]
    rfl
  · simp only [i12, Wall, e_nilchk, e_pick, e_box, e_bslice, e_load, e_store, e_eqb, e_eqp, e_eqs, e_eqagg, e_conv, e_faddr, e_field, e_extract, e_call, e_mx, mkAt, List.replicate, List.cons_append, List.nil_append, List.append_nil, List.all_cons, List.all_nil, Bool.and_self, Bool.and_true, Bool.true_and, if_true, List.length_nil, List.length_cons, Nat.zero_add, Nat.add_zero, Nat.reduceAdd, Nat.reduceMul, Nat.reduceLeDiff, Nat.le_refl, and_self, and_true, true_and, List.getElem?_cons_zero, List.getElem?_cons_succ, look, mkv, Option.map_some, Option.map_none, Option.bind_some, Bool.false_eq_true, if_false, List.map_cons, List.map_nil, binI, intBin, isShift, unI, reduceCtorEq, fillI, Nat.reduceEqDiff, Int.ofNat_lt, decide_true, decide_false, beq_iff_eq, cellV, List.append_assoc, List.length_append, Bool.not_true, Bool.not_false, h1, h2, h8, h3, h4, h5, h6, h7]
    simp only [shapeI, h1, h2, h8, h3, h4, h5, h6, h7, Wall, e_nilchk, e_pick, e_box, e_bslice, e_load, e_store, e_eqb, e_eqp, e_eqs, e_eqagg, e_conv, e_faddr, e_field, e_extract, e_call, e_mx, mkAt, List.replicate, List.cons_append, List.nil_append, List.append_nil, List.all_cons, List.all_nil, Bool.and_self, Bool.and_true, Bool.true_and, if_true, List.length_nil, List.length_cons, Nat.zero_add, Nat.add_zero, Nat.reduceAdd, Nat.reduceMul, Nat.reduceLeDiff, Nat.le_refl, and_self, and_true, true_and, List.getElem?_cons_zero, List.getElem?_cons_succ, look, mkv, Option.map_some, Option.map_none, Option.bind_some, Bool.false_eq_true, if_false, List.map_cons, List.map_nil, binI, intBin, isShift, unI, reduceCtorEq, fillI, Nat.reduceEqDiff, Int.ofNat_lt, decide_true, decide_false, beq_iff_eq, cellV, List.append_assoc, List.length_append, Bool.not_true, Bool.not_false]
    rfl
theorem gives_cloneI (hS : NoS S) (q : SlOf 1 intc) (hq : q.l.length ≤ 1073741824) : ∃ q' : SlOf 1 intc, q'.l = q.l ∧ Gives Ftab S 21 [q.v] q'.v := by
  obtain ⟨l, v, ok, few⟩ := q
  dsimp only at hq ⊢
  have key : ∀ (cs : List IV) (n : Nat), Sl 1 cs n v → cs = l.flatMap intc → n = l.length → ∃ q' : SlOf 1 intc, q'.l = l ∧ Gives Ftab S 21 [v] q'.v := by
    intro cs n h hcs hn
    cases h with
    | nil =>
      have hl : l = [] := List.length_eq_zero_iff.1 hn.symm
      refine ⟨⟨[], .nilsl, .nil, by simp⟩, hl.symm, ?_⟩
      refine gives_fz (i := i21) (k := 1) (hS _ _ (by decide) (by decide) (by decide) (by decide)) rfl rfl fz_nilsl 1 (by omega) fun m hm d out => ?_
      simp only [i21, Wall, e_nilchk, e_pick, e_box, e_bslice, e_load, e_store, e_eqb, e_eqp, e_eqs, e_eqagg, e_conv, e_faddr, e_field, e_extract, e_call, e_mx, mkAt, List.replicate, List.cons_append, List.nil_append, List.append_nil, List.all_cons, List.all_nil, Bool.and_self, Bool.and_true, Bool.true_and, if_true, List.length_nil, List.length_cons, Nat.zero_add, Nat.add_zero, Nat.reduceAdd, Nat.reduceMul, Nat.reduceLeDiff, Nat.le_refl, and_self, and_true, true_and, List.getElem?_cons_zero, List.getElem?_cons_succ, look, mkv, Option.map_some, Option.map_none, Option.bind_some, Bool.false_eq_true, if_false, List.map_cons, List.map_nil, binI, intBin, isShift, unI, reduceCtorEq, fillI, Nat.reduceEqDiff, Int.ofNat_lt, decide_true, decide_false, beq_iff_eq, cellV, List.append_assoc, List.length_append, Bool.not_true, Bool.not_false, eqsI, eqs_tt]
    | row _ _ tight h =>
      subst hcs hn
      by_cases h0 : l.length = 0
      · have hl : l = [] := List.length_eq_zero_iff.1 h0
        subst hl
        refine ⟨⟨[], .slC [] 0 1 true, .row _ _ _ rfl, by simp⟩, rfl, ?_⟩
        refine gives_fz (i := i21) (k := 1 + 1) (hS _ _ (by decide) (by decide) (by decide) (by decide)) rfl rfl (fz_slC fun x hx => by simp at hx) 2 (by omega) fun m hm d out => ?_
        have hc : cellsI (fun l i => if l = d then (([] ++ [IObj.free] : List IObj))[i]? else if l < d then (out l)[i]? else none) 1 (IV.slC [] 0 1 tight) = some ([], 0) := by
          simp [cellsI, seg, lit_eq]
        simp only [i21, Wall, e_nilchk, e_pick, e_box, e_bslice, e_load, e_store, e_eqb, e_eqp, e_eqs, e_eqagg, e_conv, e_faddr, e_field, e_extract, e_call, e_mx, mkAt, List.replicate, List.cons_append, List.nil_append, List.append_nil, List.all_cons, List.all_nil, Bool.and_self, Bool.and_true, Bool.true_and, if_true, List.length_nil, List.length_cons, Nat.zero_add, Nat.add_zero, Nat.reduceAdd, Nat.reduceMul, Nat.reduceLeDiff, Nat.le_refl, and_self, and_true, true_and, List.getElem?_cons_zero, List.getElem?_cons_succ, look, mkv, Option.map_some, Option.map_none, Option.bind_some, Bool.false_eq_true, if_false, List.map_cons, List.map_nil, binI, intBin, isShift, unI, reduceCtorEq, fillI, Nat.reduceEqDiff, Int.ofNat_lt, decide_true, decide_false, beq_iff_eq, cellV, List.append_assoc, List.length_append, Bool.not_true, Bool.not_false, eqsI, eqs_tf, ev_append, app_src, appendI, rep, List.flatMap_nil, List.length_nil]
        simp only [cellsI, seg, lit_eq, Nat.zero_mul, Nat.add_zero, List.length_nil, Nat.le_refl, if_true, List.drop_zero, List.take_zero, Option.map_some, app_ok, appendI, Wall, e_nilchk, e_pick, e_box, e_bslice, e_load, e_store, e_eqb, e_eqp, e_eqs, e_eqagg, e_conv, e_faddr, e_field, e_extract, e_call, e_mx, mkAt, List.replicate, List.cons_append, List.nil_append, List.append_nil, List.all_cons, List.all_nil, Bool.and_self, Bool.and_true, Bool.true_and, if_true, List.length_nil, List.length_cons, Nat.zero_add, Nat.add_zero, Nat.reduceAdd, Nat.reduceMul, Nat.reduceLeDiff, Nat.le_refl, and_self, and_true, true_and, List.getElem?_cons_zero, List.getElem?_cons_succ, look, mkv, Option.map_some, Option.map_none, Option.bind_some, Bool.false_eq_true, if_false, List.map_cons, List.map_nil, binI, intBin, isShift, unI, reduceCtorEq, fillI, Nat.reduceEqDiff, Int.ofNat_lt, decide_true, decide_false, beq_iff_eq, cellV, List.append_assoc, List.length_append, Bool.not_true, Bool.not_false]
      · refine ⟨⟨l, .slC (l.flatMap intc) l.length 1 (false && true), .row _ _ _ h, few⟩, rfl, ?_⟩
        refine gives_fr (i := i21) (hS _ _ (by decide) (by decide) (by decide) (by decide)) rfl rfl 3 fun m hm d out => ?_
        have hc : ∀ lk, cellsI lk 1 (IV.slC (l.flatMap intc) l.length 1 tight) = some (l.flatMap intc, l.length) := fun lk => cellsI_sl ⟨l, _, .row _ _ tight h, few⟩
        simp only [i21, Wall, e_nilchk, e_pick, e_box, e_bslice, e_load, e_store, e_eqb, e_eqp, e_eqs, e_eqagg, e_conv, e_faddr, e_field, e_extract, e_call, e_mx, mkAt, List.replicate, List.cons_append, List.nil_append, List.append_nil, List.all_cons, List.all_nil, Bool.and_self, Bool.and_true, Bool.true_and, if_true, List.length_nil, List.length_cons, Nat.zero_add, Nat.add_zero, Nat.reduceAdd, Nat.reduceMul, Nat.reduceLeDiff, Nat.le_refl, and_self, and_true, true_and, List.getElem?_cons_zero, List.getElem?_cons_succ, look, mkv, Option.map_some, Option.map_none, Option.bind_some, Bool.false_eq_true, if_false, List.map_cons, List.map_nil, binI, intBin, isShift, unI, reduceCtorEq, fillI, Nat.reduceEqDiff, Int.ofNat_lt, decide_true, decide_false, beq_iff_eq, cellV, List.append_assoc, List.length_append, Bool.not_true, Bool.not_false, eqsI, eqs_tf, ev_append, app_src, rep, hc, app_ok]
        simp only [app_row h0 (show 0 + l.length ≤ 1073741824 by omega), Wall, e_nilchk, e_pick, e_box, e_bslice, e_load, e_store, e_eqb, e_eqp, e_eqs, e_eqagg, e_conv, e_faddr, e_field, e_extract, e_call, e_mx, mkAt, List.replicate, List.cons_append, List.nil_append, List.append_nil, List.all_cons, List.all_nil, Bool.and_self, Bool.and_true, Bool.true_and, if_true, List.length_nil, List.length_cons, Nat.zero_add, Nat.add_zero, Nat.reduceAdd, Nat.reduceMul, Nat.reduceLeDiff, Nat.le_refl, and_self, and_true, true_and, List.getElem?_cons_zero, List.getElem?_cons_succ, look, mkv, Option.map_some, Option.map_none, Option.bind_some, Bool.false_eq_true, if_false, List.map_cons, List.map_nil, binI, intBin, isShift, unI, reduceCtorEq, fillI, Nat.reduceEqDiff, Int.ofNat_lt, decide_true, decide_false, beq_iff_eq, cellV, List.append_assoc, List.length_append, Bool.not_true, Bool.not_false]
        refine ⟨_, rfl, ?_⟩
        exact freeze_slM (k := 1) intc_fz (by omega) rfl intc_len rfl
  exact key _ _ ok rfl rfl
theorem gives_cloneP (hS : NoS S) (q : SlOf 2 Pt.c) (hq : q.l.length ≤ 1073741824) : ∃ q' : SlOf 2 Pt.c, q'.l = q.l ∧ Gives Ftab S 70 [q.v] q'.v := by
  obtain ⟨l, v, ok, few⟩ := q
  dsimp only at hq ⊢
  have key : ∀ (cs : List IV) (n : Nat), Sl 2 cs n v → cs = l.flatMap Pt.c → n = l.length → ∃ q' : SlOf 2 Pt.c, q'.l = l ∧ Gives Ftab S 70 [v] q'.v := by
    intro cs n h hcs hn
    cases h with
    | nil =>
      have hl : l = [] := List.length_eq_zero_iff.1 hn.symm
      refine ⟨⟨[], .nilsl, .nil, by simp⟩, hl.symm, ?_⟩
      refine gives_fz (i := i70) (k := 1) (hS _ _ (by decide) (by decide) (by decide) (by decide)) rfl rfl fz_nilsl 1 (by omega) fun m hm d out => ?_
      simp only [i70, Wall, e_nilchk, e_pick, e_box, e_bslice, e_load, e_store, e_eqb, e_eqp, e_eqs, e_eqagg, e_conv, e_faddr, e_field, e_extract, e_call, e_mx, mkAt, List.replicate, List.cons_append, List.nil_append, List.append_nil, List.all_cons, List.all_nil, Bool.and_self, Bool.and_true, Bool.true_and, if_true, List.length_nil, List.length_cons, Nat.zero_add, Nat.add_zero, Nat.reduceAdd, Nat.reduceMul, Nat.reduceLeDiff, Nat.le_refl, and_self, and_true, true_and, List.getElem?_cons_zero, List.getElem?_cons_succ, look, mkv, Option.map_some, Option.map_none, Option.bind_some, Bool.false_eq_true, if_false, List.map_cons, List.map_nil, binI, intBin, isShift, unI, reduceCtorEq, fillI, Nat.reduceEqDiff, Int.ofNat_lt, decide_true, decide_false, beq_iff_eq, cellV, List.append_assoc, List.length_append, Bool.not_true, Bool.not_false, eqsI, eqs_tt]
    | row _ _ tight h =>
      subst hcs hn
      by_cases h0 : l.length = 0
      · have hl : l = [] := List.length_eq_zero_iff.1 h0
        subst hl
        refine ⟨⟨[], .slC [] 0 2 true, .row _ _ _ rfl, by simp⟩, rfl, ?_⟩
        refine gives_fz (i := i70) (k := 1 + 1) (hS _ _ (by decide) (by decide) (by decide) (by decide)) rfl rfl (fz_slC fun x hx => by simp at hx) 2 (by omega) fun m hm d out => ?_
        have hc : cellsI (fun l i => if l = d then (([] ++ [IObj.free] : List IObj))[i]? else if l < d then (out l)[i]? else none) 2 (IV.slC [] 0 2 tight) = some ([], 0) := by
          simp [cellsI, seg, lit_eq]
        simp only [i70, Wall, e_nilchk, e_pick, e_box, e_bslice, e_load, e_store, e_eqb, e_eqp, e_eqs, e_eqagg, e_conv, e_faddr, e_field, e_extract, e_call, e_mx, mkAt, List.replicate, List.cons_append, List.nil_append, List.append_nil, List.all_cons, List.all_nil, Bool.and_self, Bool.and_true, Bool.true_and, if_true, List.length_nil, List.length_cons, Nat.zero_add, Nat.add_zero, Nat.reduceAdd, Nat.reduceMul, Nat.reduceLeDiff, Nat.le_refl, and_self, and_true, true_and, List.getElem?_cons_zero, List.getElem?_cons_succ, look, mkv, Option.map_some, Option.map_none, Option.bind_some, Bool.false_eq_true, if_false, List.map_cons, List.map_nil, binI, intBin, isShift, unI, reduceCtorEq, fillI, Nat.reduceEqDiff, Int.ofNat_lt, decide_true, decide_false, beq_iff_eq, cellV, List.append_assoc, List.length_append, Bool.not_true, Bool.not_false, eqsI, eqs_tf, ev_append, app_src, appendI, rep, List.flatMap_nil, List.length_nil]
        simp only [cellsI, seg, lit_eq, Nat.zero_mul, Nat.add_zero, List.length_nil, Nat.le_refl, if_true, List.drop_zero, List.take_zero, Option.map_some, app_ok, appendI, Wall, e_nilchk, e_pick, e_box, e_bslice, e_load, e_store, e_eqb, e_eqp, e_eqs, e_eqagg, e_conv, e_faddr, e_field, e_extract, e_call, e_mx, mkAt, List.replicate, List.cons_append, List.nil_append, List.append_nil, List.all_cons, List.all_nil, Bool.and_self, Bool.and_true, Bool.true_and, if_true, List.length_nil, List.length_cons, Nat.zero_add, Nat.add_zero, Nat.reduceAdd, Nat.reduceMul, Nat.reduceLeDiff, Nat.le_refl, and_self, and_true, true_and, List.getElem?_cons_zero, List.getElem?_cons_succ, look, mkv, Option.map_some, Option.map_none, Option.bind_some, Bool.false_eq_true, if_false, List.map_cons, List.map_nil, binI, intBin, isShift, unI, reduceCtorEq, fillI, Nat.reduceEqDiff, Int.ofNat_lt, decide_true, decide_false, beq_iff_eq, cellV, List.append_assoc, List.length_append, Bool.not_true, Bool.not_false]
      · refine ⟨⟨l, .slC (l.flatMap Pt.c) l.length 2 (false && true), .row _ _ _ h, few⟩, rfl, ?_⟩
        refine gives_fr (i := i70) (hS _ _ (by decide) (by decide) (by decide) (by decide)) rfl rfl 3 fun m hm d out => ?_
        have hc : ∀ lk, cellsI lk 2 (IV.slC (l.flatMap Pt.c) l.length 2 tight) = some (l.flatMap Pt.c, l.length) := fun lk => cellsI_sl ⟨l, _, .row _ _ tight h, few⟩
        simp only [i70, Wall, e_nilchk, e_pick, e_box, e_bslice, e_load, e_store, e_eqb, e_eqp, e_eqs, e_eqagg, e_conv, e_faddr, e_field, e_extract, e_call, e_mx, mkAt, List.replicate, List.cons_append, List.nil_append, List.append_nil, List.all_cons, List.all_nil, Bool.and_self, Bool.and_true, Bool.true_and, if_true, List.length_nil, List.length_cons, Nat.zero_add, Nat.add_zero, Nat.reduceAdd, Nat.reduceMul, Nat.reduceLeDiff, Nat.le_refl, and_self, and_true, true_and, List.getElem?_cons_zero, List.getElem?_cons_succ, look, mkv, Option.map_some, Option.map_none, Option.bind_some, Bool.false_eq_true, if_false, List.map_cons, List.map_nil, binI, intBin, isShift, unI, reduceCtorEq, fillI, Nat.reduceEqDiff, Int.ofNat_lt, decide_true, decide_false, beq_iff_eq, cellV, List.append_assoc, List.length_append, Bool.not_true, Bool.not_false, eqsI, eqs_tf, ev_append, app_src, rep, hc, app_ok]
        simp only [app_row h0 (show 0 + l.length ≤ 1073741824 by omega), Wall, e_nilchk, e_pick, e_box, e_bslice, e_load, e_store, e_eqb, e_eqp, e_eqs, e_eqagg, e_conv, e_faddr, e_field, e_extract, e_call, e_mx, mkAt, List.replicate, List.cons_append, List.nil_append, List.append_nil, List.all_cons, List.all_nil, Bool.and_self, Bool.and_true, Bool.true_and, if_true, List.length_nil, List.length_cons, Nat.zero_add, Nat.add_zero, Nat.reduceAdd, Nat.reduceMul, Nat.reduceLeDiff, Nat.le_refl, and_self, and_true, true_and, List.getElem?_cons_zero, List.getElem?_cons_succ, look, mkv, Option.map_some, Option.map_none, Option.bind_some, Bool.false_eq_true, if_false, List.map_cons, List.map_nil, binI, intBin, isShift, unI, reduceCtorEq, fillI, Nat.reduceEqDiff, Int.ofNat_lt, decide_true, decide_false, beq_iff_eq, cellV, List.append_assoc, List.length_append, Bool.not_true, Bool.not_false]
        refine ⟨_, rfl, ?_⟩
        exact freeze_slM (k := 1) ptc_fz (by omega) rfl Pt.c_len rfl
  exact key _ _ ok rfl rfl
end
end Go.Proofs.YtbfljfjjnijigaaGreatDoor
end
section
namespace Go.Proofs.YtbfljfjjnijigaaGreatDoor
open Go Go.RowKit
set_option maxRecDepth 100000
theorem find_hit {α : Type} {p : α → Bool} {l : List α} {i : Nat} {x : α} (h : (l.take i).find? p = none) (hx : l[i]? = some x) (hp : p x = true) : l.find? p = some x := by
  have hi := (List.getElem?_eq_some_iff.1 hx).1
  have h1 : l = l.take i ++ x :: l.drop (i + 1) := by
    conv => lhs; rw [← List.take_append_drop i l]
    congr 1
    rw [List.drop_eq_getElem_cons hi]
    congr 1
    rw [List.getElem?_eq_getElem hi] at hx
    exact Option.some.inj hx
  rw [h1, List.find?_append, h, Option.none_or, List.find?_cons, hp]
theorem find_next {α : Type} {p : α → Bool} {l : List α} {i : Nat} {x : α} (h : (l.take i).find? p = none) (hx : l[i]? = some x) (hp : p x = false) : (l.take (i + 1)).find? p = none := by
  rw [List.take_add_one, hx, Option.toList_some, List.find?_append, h, Option.none_or, List.find?_cons, hp]
  rfl
theorem find_end {α : Type} {p : α → Bool} {l : List α} {i : Nat} (h : (l.take i).find? p = none) (hi : ¬ i < l.length) : l.find? p = none := by
  rwa [List.take_of_length_le (by omega)] at h
def nilS (sz : Nat) {α : Type} (g : α → List IV) : SlOf sz g := ⟨[], .nilsl, .nil, by simp⟩
def zFt : Ft := ⟨0, 0, 0, ⟨bs [], by decide⟩, nilS 1 intc⟩
def zAc : Ac := ⟨0, 0, 0, nilS 2 Pt.c, 0, 0⟩
def zNd : Nd := ⟨0, ⟨0, 0⟩⟩
theorem zFt_c : zFt.c = [.int .i64 0, .int .i64 0, .int .i64 0, .str (bs []), .nilsl] := rfl
theorem zAc_c : zAc.c = [.int .i64 0, .int .i64 0, .int .i64 0, .nilsl, .int .i64 0, .int .i64 0] := rfl
theorem zNd_c : zNd.c = [.int .i64 0, .int .i64 0, .int .i64 0] := rfl
section
variable {S : FuncId → List IV → Option IV}
theorem slOf_fz {α : Type} {g : α → List IV} {sz : Nat} (hg : ∀ a, ∀ x ∈ g a, Fz 1 x) (q : SlOf sz g) : Fz (1 + 1 + 1) q.v := by
  obtain ⟨l, v, ok, few⟩ := q
  have key : ∀ (cs : List IV) (n : Nat) (v : IV), Sl sz cs n v → cs = l.flatMap g → Fz (1 + 1 + 1) v := fun cs n v h hcs => by
    cases h with
    | nil => exact fz_nilsl.le (by omega)
    | row _ _ tight h => subst hcs; exact (sl_fz (k := 1) hg).le (by omega)
  exact key _ _ _ ok rfl
theorem gives_find_fz0 : Fz (1 + 1 + 1) (.tuple [.agg ({ (none : Option Ft).getD zFt with parts := nilS _ _ } : Ft).c, .bool (none : Option Ft).isSome]) := fun m hm lv own => by
  obtain ⟨m, rfl⟩ : ∃ q, m = q + 3 := ⟨m - 3, by omega⟩
  rfl
theorem gives_find_fz1 (f0 : Ft) (q : SlOf 1 intc) : Fz (1 + 1 + 1 + 1 + 1) (.tuple [.agg ({ (some f0).getD zFt with parts := q } : Ft).c, .bool (some f0).isSome]) := by
  refine fz_tuple fun x hx => ?_
  simp only [List.mem_cons, List.not_mem_nil, or_false] at hx
  rcases hx with rfl | rfl
  · refine fz_agg fun x hx => ?_
    simp only [Ft.c, List.mem_cons, List.not_mem_nil, or_false, Option.getD_some] at hx
    rcases hx with rfl | rfl | rfl | rfl | rfl
    all_goals first | exact fz_int.le (by omega) | exact fz_str.le (by omega) | exact slOf_fz intc_fz q
  · exact fz_bool.le (by omega)
theorem gives_find (hS : NoS S) (s : Sv) (id : Int) (hsm : ∀ f ∈ s.ft.l, f.parts.l.length ≤ 1073741824) : ∃ q', q'.l = ((s.ft.l.find? fun f => f.id == id).getD zFt).parts.l ∧
    Gives Ftab S 6 [.agg s.c, iv id] (.tuple [.agg ({ (s.ft.l.find? fun f => f.id == id).getD zFt with parts := q' } : Ft).c, .bool (s.ft.l.find? fun f => f.id == id).isSome]) := by
  cases hf : s.ft.l.find? fun f => f.id == id with
  | none =>
    refine ⟨nilS _ _, rfl, ?_⟩
    refine gives_fz (i := i6) (k := 1 + 1 + 1) (hS _ _ (by decide) (by decide) (by decide) (by decide)) rfl rfl gives_find_fz0 (s.ft.l.length + 5) (by omega) fun m hm d out => ?_
    simp only [i6, Wall, e_nilchk, e_pick, e_box, e_bslice, e_load, e_store, e_eqb, e_eqp, e_eqs, e_eqagg, e_conv, e_faddr, e_field, e_extract, e_call, e_mx, mkAt, List.replicate, List.cons_append, List.nil_append, List.append_nil, List.all_cons, List.all_nil, Bool.and_self, Bool.and_true, Bool.true_and, if_true, List.length_nil, List.length_cons, Nat.zero_add, Nat.add_zero, Nat.reduceAdd, Nat.reduceMul, Nat.reduceLeDiff, Nat.le_refl, and_self, and_true, true_and, List.getElem?_cons_zero, List.getElem?_cons_succ, look, mkv, Option.map_some, Option.map_none, Option.bind_some, Bool.false_eq_true, if_false, List.map_cons, List.map_nil, binI, intBin, isShift, unI, reduceCtorEq, fillI, Nat.reduceEqDiff, Int.ofNat_lt, decide_true, decide_false, beq_iff_eq, cellV, List.append_assoc, List.length_append, Bool.not_true, Bool.not_false, Sv.c]
    refine ex_rounds (fun j st => ∃ i, j = s.ft.l.length - i ∧ i ≤ s.ft.l.length ∧ ((s.ft.l.take i).find? fun f => f.id == id) = none ∧ ∃ J a3 a6 a7 a8 a12 a13 a14 a15 a16 a17 a18 a19 a20 a21 a22 a23 a24 a25, st = ⟨[.agg s.c, iv id, .ptrM d 0 0, a3, .ptrM d 1 0, .bool false, a6, a7, a8, s.ft.v, iv (s.ft.l.length : Nat), iv i, a12, a13, a14, a15, a16, a17, a18, a19, a20, a21, a22, a23, a24, a25], .cells [s.pl.ns.v, s.pl.as.v, s.pl.fs.v, s.ft.v] :: .cells zFt.c :: J⟩) s.ft.l.length (by omega) ⟨0, by omega, by omega, by simp, [], _, _, _, _, _, _, _, _, _, _, _, _, _, _, _, _, _, _, rfl⟩ ?_
    rintro j st K ⟨i, rfl, hi, hc, J, a3, a6, a7, a8, a12, a13, a14, a15, a16, a17, a18, a19, a20, a21, a22, a23, a24, a25, rfl⟩ hn he hr
    by_cases h : i < s.ft.l.length
    · have hx : s.ft.l[i]? = some s.ft.l[i] := List.getElem?_eq_getElem h
      generalize s.ft.l[i] = x at hx
      have hrd : rdN (s.ft.l.flatMap Ft.c) (i * 5) 5 = some x.c := (rdN_flat Ft.c_len 0 5 hx (by omega)).trans rfl
      have hw : wrapI .i64 ((i : Int) + 1) = ((i + 1 : Nat) : Int) := wrap_succ (by have := s.ft.few; omega)
      cases hb : x.id == id
      · simp only [Wall, e_nilchk, e_pick, e_box, e_bslice, e_load, e_store, e_eqb, e_eqp, e_eqs, e_eqagg, e_conv, e_faddr, e_field, e_extract, e_call, e_mx, mkAt, List.replicate, List.cons_append, List.nil_append, List.append_nil, List.all_cons, List.all_nil, Bool.and_self, Bool.and_true, Bool.true_and, if_true, List.length_nil, List.length_cons, Nat.zero_add, Nat.add_zero, Nat.reduceAdd, Nat.reduceMul, Nat.reduceLeDiff, Nat.le_refl, and_self, and_true, true_and, List.getElem?_cons_zero, List.getElem?_cons_succ, look, mkv, Option.map_some, Option.map_none, Option.bind_some, Bool.false_eq_true, if_false, List.map_cons, List.map_nil, binI, intBin, isShift, unI, reduceCtorEq, fillI, Nat.reduceEqDiff, Int.ofNat_lt, decide_true, decide_false, beq_iff_eq, cellV, List.append_assoc, List.length_append, Bool.not_true, Bool.not_false, h, iaddrV_sl s.ft h, hrd, hb, hw, Ft.c, zFt_c]
        refine hn _ (s.ft.l.length - (i + 1)) (by omega) ⟨i + 1, rfl, by omega, find_next hc hx hb, _, _, _, _, _, _, _, _, _, _, _, _, _, _, _, _, _, _, _, rfl⟩
      · have hxf := find_hit (p := fun f => f.id == id) hc hx hb
        rw [hf] at hxf
        simp at hxf
    · have hxf := find_end hc h
      rw [hf] at hxf
      simp only [Wall, e_nilchk, e_pick, e_box, e_bslice, e_load, e_store, e_eqb, e_eqp, e_eqs, e_eqagg, e_conv, e_faddr, e_field, e_extract, e_call, e_mx, mkAt, List.replicate, List.cons_append, List.nil_append, List.append_nil, List.all_cons, List.all_nil, Bool.and_self, Bool.and_true, Bool.true_and, if_true, List.length_nil, List.length_cons, Nat.zero_add, Nat.add_zero, Nat.reduceAdd, Nat.reduceMul, Nat.reduceLeDiff, Nat.le_refl, and_self, and_true, true_and, List.getElem?_cons_zero, List.getElem?_cons_succ, look, mkv, Option.map_some, Option.map_none, Option.bind_some, Bool.false_eq_true, if_false, List.map_cons, List.map_nil, binI, intBin, isShift, unI, reduceCtorEq, fillI, Nat.reduceEqDiff, Int.ofNat_lt, decide_true, decide_false, beq_iff_eq, cellV, List.append_assoc, List.length_append, Bool.not_true, Bool.not_false, h, zFt_c]
      refine he _ _ ?_
      simp only [Wall, e_nilchk, e_pick, e_box, e_bslice, e_load, e_store, e_eqb, e_eqp, e_eqs, e_eqagg, e_conv, e_faddr, e_field, e_extract, e_call, e_mx, mkAt, List.replicate, List.cons_append, List.nil_append, List.append_nil, List.all_cons, List.all_nil, Bool.and_self, Bool.and_true, Bool.true_and, if_true, List.length_nil, List.length_cons, Nat.zero_add, Nat.add_zero, Nat.reduceAdd, Nat.reduceMul, Nat.reduceLeDiff, Nat.le_refl, and_self, and_true, true_and, List.getElem?_cons_zero, List.getElem?_cons_succ, look, mkv, Option.map_some, Option.map_none, Option.bind_some, Bool.false_eq_true, if_false, List.map_cons, List.map_nil, binI, intBin, isShift, unI, reduceCtorEq, fillI, Nat.reduceEqDiff, Int.ofNat_lt, decide_true, decide_false, beq_iff_eq, cellV, List.append_assoc, List.length_append, Bool.not_true, Bool.not_false, zFt_c]
      rfl
  | some f0 =>
    obtain ⟨q', hq, N, hN⟩ := gives_cloneI hS f0.parts (hsm f0 (List.mem_of_find?_eq_some hf))
    refine ⟨q', hq, ?_⟩
    refine gives_fz (i := i6) (k := 1 + 1 + 1 + 1 + 1) (hS _ _ (by decide) (by decide) (by decide) (by decide)) rfl rfl (gives_find_fz1 f0 q') (N + s.ft.l.length + 8) (by omega) fun m hm d out => ?_
    have hcall := fun d out ownV own id => hN m (by omega) d out ownV own id
    simp only [i6, Wall, e_nilchk, e_pick, e_box, e_bslice, e_load, e_store, e_eqb, e_eqp, e_eqs, e_eqagg, e_conv, e_faddr, e_field, e_extract, e_call, e_mx, mkAt, List.replicate, List.cons_append, List.nil_append, List.append_nil, List.all_cons, List.all_nil, Bool.and_self, Bool.and_true, Bool.true_and, if_true, List.length_nil, List.length_cons, Nat.zero_add, Nat.add_zero, Nat.reduceAdd, Nat.reduceMul, Nat.reduceLeDiff, Nat.le_refl, and_self, and_true, true_and, List.getElem?_cons_zero, List.getElem?_cons_succ, look, mkv, Option.map_some, Option.map_none, Option.bind_some, Bool.false_eq_true, if_false, List.map_cons, List.map_nil, binI, intBin, isShift, unI, reduceCtorEq, fillI, Nat.reduceEqDiff, Int.ofNat_lt, decide_true, decide_false, beq_iff_eq, cellV, List.append_assoc, List.length_append, Bool.not_true, Bool.not_false, Sv.c]
    refine ex_rounds (fun j st => ∃ i, j = s.ft.l.length - i ∧ i ≤ s.ft.l.length ∧ ((s.ft.l.take i).find? fun f => f.id == id) = none ∧ ∃ J a3 a6 a7 a8 a12 a13 a14 a15 a16 a17 a18 a19 a20 a21 a22 a23 a24 a25, st = ⟨[.agg s.c, iv id, .ptrM d 0 0, a3, .ptrM d 1 0, .bool false, a6, a7, a8, s.ft.v, iv (s.ft.l.length : Nat), iv i, a12, a13, a14, a15, a16, a17, a18, a19, a20, a21, a22, a23, a24, a25], .cells [s.pl.ns.v, s.pl.as.v, s.pl.fs.v, s.ft.v] :: .cells zFt.c :: J⟩) s.ft.l.length (by omega) ⟨0, by omega, by omega, by simp, [], _, _, _, _, _, _, _, _, _, _, _, _, _, _, _, _, _, _, rfl⟩ ?_
    rintro j st K ⟨i, rfl, hi, hc, J, a3, a6, a7, a8, a12, a13, a14, a15, a16, a17, a18, a19, a20, a21, a22, a23, a24, a25, rfl⟩ hn he hr
    by_cases h : i < s.ft.l.length
    · have hx : s.ft.l[i]? = some s.ft.l[i] := List.getElem?_eq_getElem h
      generalize s.ft.l[i] = x at hx
      have hrd : rdN (s.ft.l.flatMap Ft.c) (i * 5) 5 = some x.c := (rdN_flat Ft.c_len 0 5 hx (by omega)).trans rfl
      have hw : wrapI .i64 ((i : Int) + 1) = ((i + 1 : Nat) : Int) := wrap_succ (by have := s.ft.few; omega)
      cases hb : x.id == id
      · simp only [Wall, e_nilchk, e_pick, e_box, e_bslice, e_load, e_store, e_eqb, e_eqp, e_eqs, e_eqagg, e_conv, e_faddr, e_field, e_extract, e_call, e_mx, mkAt, List.replicate, List.cons_append, List.nil_append, List.append_nil, List.all_cons, List.all_nil, Bool.and_self, Bool.and_true, Bool.true_and, if_true, List.length_nil, List.length_cons, Nat.zero_add, Nat.add_zero, Nat.reduceAdd, Nat.reduceMul, Nat.reduceLeDiff, Nat.le_refl, and_self, and_true, true_and, List.getElem?_cons_zero, List.getElem?_cons_succ, look, mkv, Option.map_some, Option.map_none, Option.bind_some, Bool.false_eq_true, if_false, List.map_cons, List.map_nil, binI, intBin, isShift, unI, reduceCtorEq, fillI, Nat.reduceEqDiff, Int.ofNat_lt, decide_true, decide_false, beq_iff_eq, cellV, List.append_assoc, List.length_append, Bool.not_true, Bool.not_false, h, iaddrV_sl s.ft h, hrd, hb, hw, Ft.c, zFt_c]
        refine hn _ (s.ft.l.length - (i + 1)) (by omega) ⟨i + 1, rfl, by omega, find_next hc hx hb, _, _, _, _, _, _, _, _, _, _, _, _, _, _, _, _, _, _, _, rfl⟩
      · have hxf := find_hit (p := fun f => f.id == id) hc hx hb
        rw [hf] at hxf
        obtain rfl := Option.some.inj hxf
        simp only [Wall, e_nilchk, e_pick, e_box, e_bslice, e_load, e_store, e_eqb, e_eqp, e_eqs, e_eqagg, e_conv, e_faddr, e_field, e_extract, e_call, e_mx, mkAt, List.replicate, List.cons_append, List.nil_append, List.append_nil, List.all_cons, List.all_nil, Bool.and_self, Bool.and_true, Bool.true_and, if_true, List.length_nil, List.length_cons, Nat.zero_add, Nat.add_zero, Nat.reduceAdd, Nat.reduceMul, Nat.reduceLeDiff, Nat.le_refl, and_self, and_true, true_and, List.getElem?_cons_zero, List.getElem?_cons_succ, look, mkv, Option.map_some, Option.map_none, Option.bind_some, Bool.false_eq_true, if_false, List.map_cons, List.map_nil, binI, intBin, isShift, unI, reduceCtorEq, fillI, Nat.reduceEqDiff, Int.ofNat_lt, decide_true, decide_false, beq_iff_eq, cellV, List.append_assoc, List.length_append, Bool.not_true, Bool.not_false, h, iaddrV_sl s.ft h, hrd, hb, Ft.c, zFt_c, hcall]
        refine hr _ ?_
        simp only [Wall, e_nilchk, e_pick, e_box, e_bslice, e_load, e_store, e_eqb, e_eqp, e_eqs, e_eqagg, e_conv, e_faddr, e_field, e_extract, e_call, e_mx, mkAt, List.replicate, List.cons_append, List.nil_append, List.append_nil, List.all_cons, List.all_nil, Bool.and_self, Bool.and_true, Bool.true_and, if_true, List.length_nil, List.length_cons, Nat.zero_add, Nat.add_zero, Nat.reduceAdd, Nat.reduceMul, Nat.reduceLeDiff, Nat.le_refl, and_self, and_true, true_and, List.getElem?_cons_zero, List.getElem?_cons_succ, look, mkv, Option.map_some, Option.map_none, Option.bind_some, Bool.false_eq_true, if_false, List.map_cons, List.map_nil, binI, intBin, isShift, unI, reduceCtorEq, fillI, Nat.reduceEqDiff, Int.ofNat_lt, decide_true, decide_false, beq_iff_eq, cellV, List.append_assoc, List.length_append, Bool.not_true, Bool.not_false, zFt_c, hcall]
        rfl
    · have hxf := find_end hc h
      rw [hf] at hxf
      simp at hxf
theorem gives_arc_fz0 : Fz (1 + 1 + 1) (.tuple [.agg ({ (none : Option Ac).getD zAc with via := nilS _ _ } : Ac).c, .bool (none : Option Ac).isSome]) := fun m hm lv own => by
  obtain ⟨m, rfl⟩ : ∃ q, m = q + 3 := ⟨m - 3, by omega⟩
  rfl
theorem gives_arc_fz1 (f0 : Ac) (q : SlOf 2 Pt.c) : Fz (1 + 1 + 1 + 1 + 1) (.tuple [.agg ({ (some f0).getD zAc with via := q } : Ac).c, .bool (some f0).isSome]) := by
  refine fz_tuple fun x hx => ?_
  simp only [List.mem_cons, List.not_mem_nil, or_false] at hx
  rcases hx with rfl | rfl
  · refine fz_agg fun x hx => ?_
    simp only [Ac.c, List.mem_cons, List.not_mem_nil, or_false, Option.getD_some] at hx
    rcases hx with rfl | rfl | rfl | rfl | rfl | rfl
    all_goals first | exact fz_int.le (by omega) | exact fz_str.le (by omega) | exact slOf_fz ptc_fz q
  · exact fz_bool.le (by omega)
theorem gives_arc (hS : NoS S) (p : Pn) (id : Int) (hsm : ∀ f ∈ p.as.l, f.via.l.length ≤ 1073741824) : ∃ q', q'.l = ((p.as.l.find? fun f => f.id == id).getD zAc).via.l ∧
    Gives Ftab S 46 [.agg p.c, iv id] (.tuple [.agg ({ (p.as.l.find? fun f => f.id == id).getD zAc with via := q' } : Ac).c, .bool (p.as.l.find? fun f => f.id == id).isSome]) := by
  cases hf : p.as.l.find? fun f => f.id == id with
  | none =>
    refine ⟨nilS _ _, rfl, ?_⟩
    refine gives_fz (i := i46) (k := 1 + 1 + 1) (hS _ _ (by decide) (by decide) (by decide) (by decide)) rfl rfl gives_arc_fz0 (p.as.l.length + 5) (by omega) fun m hm d out => ?_
    simp only [i46, Wall, e_nilchk, e_pick, e_box, e_bslice, e_load, e_store, e_eqb, e_eqp, e_eqs, e_eqagg, e_conv, e_faddr, e_field, e_extract, e_call, e_mx, mkAt, List.replicate, List.cons_append, List.nil_append, List.append_nil, List.all_cons, List.all_nil, Bool.and_self, Bool.and_true, Bool.true_and, if_true, List.length_nil, List.length_cons, Nat.zero_add, Nat.add_zero, Nat.reduceAdd, Nat.reduceMul, Nat.reduceLeDiff, Nat.le_refl, and_self, and_true, true_and, List.getElem?_cons_zero, List.getElem?_cons_succ, look, mkv, Option.map_some, Option.map_none, Option.bind_some, Bool.false_eq_true, if_false, List.map_cons, List.map_nil, binI, intBin, isShift, unI, reduceCtorEq, fillI, Nat.reduceEqDiff, Int.ofNat_lt, decide_true, decide_false, beq_iff_eq, cellV, List.append_assoc, List.length_append, Bool.not_true, Bool.not_false, Pn.c]
    refine ex_rounds (fun j st => ∃ i, j = p.as.l.length - i ∧ i ≤ p.as.l.length ∧ ((p.as.l.take i).find? fun f => f.id == id) = none ∧ ∃ J a3 a6 a7 a8 a12 a13 a14 a15 a16 a17 a18 a19 a20 a21 a22 a23 a24 a25, st = ⟨[.agg p.c, iv id, .ptrM d 0 0, a3, .ptrM d 1 0, .bool false, a6, a7, a8, p.as.v, iv (p.as.l.length : Nat), iv i, a12, a13, a14, a15, a16, a17, a18, a19, a20, a21, a22, a23, a24, a25], .cells [p.ns.v, p.as.v, p.fs.v] :: .cells zAc.c :: J⟩) p.as.l.length (by omega) ⟨0, by omega, by omega, by simp, [], _, _, _, _, _, _, _, _, _, _, _, _, _, _, _, _, _, _, rfl⟩ ?_
    rintro j st K ⟨i, rfl, hi, hc, J, a3, a6, a7, a8, a12, a13, a14, a15, a16, a17, a18, a19, a20, a21, a22, a23, a24, a25, rfl⟩ hn he hr
    by_cases h : i < p.as.l.length
    · have hx : p.as.l[i]? = some p.as.l[i] := List.getElem?_eq_getElem h
      generalize p.as.l[i] = x at hx
      have hrd : rdN (p.as.l.flatMap Ac.c) (i * 6) 6 = some x.c := (rdN_flat Ac.c_len 0 6 hx (by omega)).trans rfl
      have hw : wrapI .i64 ((i : Int) + 1) = ((i + 1 : Nat) : Int) := wrap_succ (by have := p.as.few; omega)
      cases hb : x.id == id
      · simp only [Wall, e_nilchk, e_pick, e_box, e_bslice, e_load, e_store, e_eqb, e_eqp, e_eqs, e_eqagg, e_conv, e_faddr, e_field, e_extract, e_call, e_mx, mkAt, List.replicate, List.cons_append, List.nil_append, List.append_nil, List.all_cons, List.all_nil, Bool.and_self, Bool.and_true, Bool.true_and, if_true, List.length_nil, List.length_cons, Nat.zero_add, Nat.add_zero, Nat.reduceAdd, Nat.reduceMul, Nat.reduceLeDiff, Nat.le_refl, and_self, and_true, true_and, List.getElem?_cons_zero, List.getElem?_cons_succ, look, mkv, Option.map_some, Option.map_none, Option.bind_some, Bool.false_eq_true, if_false, List.map_cons, List.map_nil, binI, intBin, isShift, unI, reduceCtorEq, fillI, Nat.reduceEqDiff, Int.ofNat_lt, decide_true, decide_false, beq_iff_eq, cellV, List.append_assoc, List.length_append, Bool.not_true, Bool.not_false, h, iaddrV_sl p.as h, hrd, hb, hw, Ac.c, zAc_c]
        refine hn _ (p.as.l.length - (i + 1)) (by omega) ⟨i + 1, rfl, by omega, find_next hc hx hb, _, _, _, _, _, _, _, _, _, _, _, _, _, _, _, _, _, _, _, rfl⟩
      · have hxf := find_hit (p := fun f => f.id == id) hc hx hb
        rw [hf] at hxf
        simp at hxf
    · have hxf := find_end hc h
      rw [hf] at hxf
      simp only [Wall, e_nilchk, e_pick, e_box, e_bslice, e_load, e_store, e_eqb, e_eqp, e_eqs, e_eqagg, e_conv, e_faddr, e_field, e_extract, e_call, e_mx, mkAt, List.replicate, List.cons_append, List.nil_append, List.append_nil, List.all_cons, List.all_nil, Bool.and_self, Bool.and_true, Bool.true_and, if_true, List.length_nil, List.length_cons, Nat.zero_add, Nat.add_zero, Nat.reduceAdd, Nat.reduceMul, Nat.reduceLeDiff, Nat.le_refl, and_self, and_true, true_and, List.getElem?_cons_zero, List.getElem?_cons_succ, look, mkv, Option.map_some, Option.map_none, Option.bind_some, Bool.false_eq_true, if_false, List.map_cons, List.map_nil, binI, intBin, isShift, unI, reduceCtorEq, fillI, Nat.reduceEqDiff, Int.ofNat_lt, decide_true, decide_false, beq_iff_eq, cellV, List.append_assoc, List.length_append, Bool.not_true, Bool.not_false, h, zAc_c]
      refine he _ _ ?_
      simp only [Wall, e_nilchk, e_pick, e_box, e_bslice, e_load, e_store, e_eqb, e_eqp, e_eqs, e_eqagg, e_conv, e_faddr, e_field, e_extract, e_call, e_mx, mkAt, List.replicate, List.cons_append, List.nil_append, List.append_nil, List.all_cons, List.all_nil, Bool.and_self, Bool.and_true, Bool.true_and, if_true, List.length_nil, List.length_cons, Nat.zero_add, Nat.add_zero, Nat.reduceAdd, Nat.reduceMul, Nat.reduceLeDiff, Nat.le_refl, and_self, and_true, true_and, List.getElem?_cons_zero, List.getElem?_cons_succ, look, mkv, Option.map_some, Option.map_none, Option.bind_some, Bool.false_eq_true, if_false, List.map_cons, List.map_nil, binI, intBin, isShift, unI, reduceCtorEq, fillI, Nat.reduceEqDiff, Int.ofNat_lt, decide_true, decide_false, beq_iff_eq, cellV, List.append_assoc, List.length_append, Bool.not_true, Bool.not_false, zAc_c]
      rfl
  | some f0 =>
    obtain ⟨q', hq, N, hN⟩ := gives_cloneP hS f0.via (hsm f0 (List.mem_of_find?_eq_some hf))
    refine ⟨q', hq, ?_⟩
    refine gives_fz (i := i46) (k := 1 + 1 + 1 + 1 + 1) (hS _ _ (by decide) (by decide) (by decide) (by decide)) rfl rfl (gives_arc_fz1 f0 q') (N + p.as.l.length + 8) (by omega) fun m hm d out => ?_
    have hcall := fun d out ownV own id => hN m (by omega) d out ownV own id
    simp only [i46, Wall, e_nilchk, e_pick, e_box, e_bslice, e_load, e_store, e_eqb, e_eqp, e_eqs, e_eqagg, e_conv, e_faddr, e_field, e_extract, e_call, e_mx, mkAt, List.replicate, List.cons_append, List.nil_append, List.append_nil, List.all_cons, List.all_nil, Bool.and_self, Bool.and_true, Bool.true_and, if_true, List.length_nil, List.length_cons, Nat.zero_add, Nat.add_zero, Nat.reduceAdd, Nat.reduceMul, Nat.reduceLeDiff, Nat.le_refl, and_self, and_true, true_and, List.getElem?_cons_zero, List.getElem?_cons_succ, look, mkv, Option.map_some, Option.map_none, Option.bind_some, Bool.false_eq_true, if_false, List.map_cons, List.map_nil, binI, intBin, isShift, unI, reduceCtorEq, fillI, Nat.reduceEqDiff, Int.ofNat_lt, decide_true, decide_false, beq_iff_eq, cellV, List.append_assoc, List.length_append, Bool.not_true, Bool.not_false, Pn.c]
    refine ex_rounds (fun j st => ∃ i, j = p.as.l.length - i ∧ i ≤ p.as.l.length ∧ ((p.as.l.take i).find? fun f => f.id == id) = none ∧ ∃ J a3 a6 a7 a8 a12 a13 a14 a15 a16 a17 a18 a19 a20 a21 a22 a23 a24 a25, st = ⟨[.agg p.c, iv id, .ptrM d 0 0, a3, .ptrM d 1 0, .bool false, a6, a7, a8, p.as.v, iv (p.as.l.length : Nat), iv i, a12, a13, a14, a15, a16, a17, a18, a19, a20, a21, a22, a23, a24, a25], .cells [p.ns.v, p.as.v, p.fs.v] :: .cells zAc.c :: J⟩) p.as.l.length (by omega) ⟨0, by omega, by omega, by simp, [], _, _, _, _, _, _, _, _, _, _, _, _, _, _, _, _, _, _, rfl⟩ ?_
    rintro j st K ⟨i, rfl, hi, hc, J, a3, a6, a7, a8, a12, a13, a14, a15, a16, a17, a18, a19, a20, a21, a22, a23, a24, a25, rfl⟩ hn he hr
    by_cases h : i < p.as.l.length
    · have hx : p.as.l[i]? = some p.as.l[i] := List.getElem?_eq_getElem h
      generalize p.as.l[i] = x at hx
      have hrd : rdN (p.as.l.flatMap Ac.c) (i * 6) 6 = some x.c := (rdN_flat Ac.c_len 0 6 hx (by omega)).trans rfl
      have hw : wrapI .i64 ((i : Int) + 1) = ((i + 1 : Nat) : Int) := wrap_succ (by have := p.as.few; omega)
      cases hb : x.id == id
      · simp only [Wall, e_nilchk, e_pick, e_box, e_bslice, e_load, e_store, e_eqb, e_eqp, e_eqs, e_eqagg, e_conv, e_faddr, e_field, e_extract, e_call, e_mx, mkAt, List.replicate, List.cons_append, List.nil_append, List.append_nil, List.all_cons, List.all_nil, Bool.and_self, Bool.and_true, Bool.true_and, if_true, List.length_nil, List.length_cons, Nat.zero_add, Nat.add_zero, Nat.reduceAdd, Nat.reduceMul, Nat.reduceLeDiff, Nat.le_refl, and_self, and_true, true_and, List.getElem?_cons_zero, List.getElem?_cons_succ, look, mkv, Option.map_some, Option.map_none, Option.bind_some, Bool.false_eq_true, if_false, List.map_cons, List.map_nil, binI, intBin, isShift, unI, reduceCtorEq, fillI, Nat.reduceEqDiff, Int.ofNat_lt, decide_true, decide_false, beq_iff_eq, cellV, List.append_assoc, List.length_append, Bool.not_true, Bool.not_false, h, iaddrV_sl p.as h, hrd, hb, hw, Ac.c, zAc_c]
        refine hn _ (p.as.l.length - (i + 1)) (by omega) ⟨i + 1, rfl, by omega, find_next hc hx hb, _, _, _, _, _, _, _, _, _, _, _, _, _, _, _, _, _, _, _, rfl⟩
      · have hxf := find_hit (p := fun f => f.id == id) hc hx hb
        rw [hf] at hxf
        obtain rfl := Option.some.inj hxf
        simp only [Wall, e_nilchk, e_pick, e_box, e_bslice, e_load, e_store, e_eqb, e_eqp, e_eqs, e_eqagg, e_conv, e_faddr, e_field, e_extract, e_call, e_mx, mkAt, List.replicate, List.cons_append, List.nil_append, List.append_nil, List.all_cons, List.all_nil, Bool.and_self, Bool.and_true, Bool.true_and, if_true, List.length_nil, List.length_cons, Nat.zero_add, Nat.add_zero, Nat.reduceAdd, Nat.reduceMul, Nat.reduceLeDiff, Nat.le_refl, and_self, and_true, true_and, List.getElem?_cons_zero, List.getElem?_cons_succ, look, mkv, Option.map_some, Option.map_none, Option.bind_some, Bool.false_eq_true, if_false, List.map_cons, List.map_nil, binI, intBin, isShift, unI, reduceCtorEq, fillI, Nat.reduceEqDiff, Int.ofNat_lt, decide_true, decide_false, beq_iff_eq, cellV, List.append_assoc, List.length_append, Bool.not_true, Bool.not_false, h, iaddrV_sl p.as h, hrd, hb, Ac.c, zAc_c, hcall]
        refine hr _ ?_
        simp only [Wall, e_nilchk, e_pick, e_box, e_bslice, e_load, e_store, e_eqb, e_eqp, e_eqs, e_eqagg, e_conv, e_faddr, e_field, e_extract, e_call, e_mx, mkAt, List.replicate, List.cons_append, List.nil_append, List.append_nil, List.all_cons, List.all_nil, Bool.and_self, Bool.and_true, Bool.true_and, if_true, List.length_nil, List.length_cons, Nat.zero_add, Nat.add_zero, Nat.reduceAdd, Nat.reduceMul, Nat.reduceLeDiff, Nat.le_refl, and_self, and_true, true_and, List.getElem?_cons_zero, List.getElem?_cons_succ, look, mkv, Option.map_some, Option.map_none, Option.bind_some, Bool.false_eq_true, if_false, List.map_cons, List.map_nil, binI, intBin, isShift, unI, reduceCtorEq, fillI, Nat.reduceEqDiff, Int.ofNat_lt, decide_true, decide_false, beq_iff_eq, cellV, List.append_assoc, List.length_append, Bool.not_true, Bool.not_false, zAc_c, hcall]
        rfl
    · have hxf := find_end hc h
      rw [hf] at hxf
      simp at hxf
theorem gives_node_fz1 (f0 : Nd) : Fz (1 + 1 + 1) (.tuple [.agg ((some f0).getD zNd).c, .bool (some f0).isSome]) := fun m hm lv own => by
  obtain ⟨m, rfl⟩ : ∃ q, m = q + 3 := ⟨m - 3, by omega⟩
  rfl
theorem gives_node_fz0 : Fz (1 + 1 + 1) (.tuple [.agg ((none : Option Nd).getD zNd).c, .bool (none : Option Nd).isSome]) := fun m hm lv own => by
  obtain ⟨m, rfl⟩ : ∃ q, m = q + 3 := ⟨m - 3, by omega⟩
  rfl
theorem gives_node (hS : NoS S) (p : Pn) (id : Int) : Gives Ftab S 24 [.agg p.c, iv id] (.tuple [.agg ((p.ns.l.find? fun f => f.id == id).getD zNd).c, .bool (p.ns.l.find? fun f => f.id == id).isSome]) := by
  cases hf : p.ns.l.find? fun f => f.id == id with
  | none =>
    refine gives_fz (i := i24) (k := 1 + 1 + 1) (hS _ _ (by decide) (by decide) (by decide) (by decide)) rfl rfl gives_node_fz0 (p.ns.l.length + 5) (by omega) fun m hm d out => ?_
    simp only [i24, Wall, e_nilchk, e_pick, e_box, e_bslice, e_load, e_store, e_eqb, e_eqp, e_eqs, e_eqagg, e_conv, e_faddr, e_field, e_extract, e_call, e_mx, mkAt, List.replicate, List.cons_append, List.nil_append, List.append_nil, List.all_cons, List.all_nil, Bool.and_self, Bool.and_true, Bool.true_and, if_true, List.length_nil, List.length_cons, Nat.zero_add, Nat.add_zero, Nat.reduceAdd, Nat.reduceMul, Nat.reduceLeDiff, Nat.le_refl, and_self, and_true, true_and, List.getElem?_cons_zero, List.getElem?_cons_succ, look, mkv, Option.map_some, Option.map_none, Option.bind_some, Bool.false_eq_true, if_false, List.map_cons, List.map_nil, binI, intBin, isShift, unI, reduceCtorEq, fillI, Nat.reduceEqDiff, Int.ofNat_lt, decide_true, decide_false, beq_iff_eq, cellV, List.append_assoc, List.length_append, Bool.not_true, Bool.not_false, Pn.c]
    refine ex_rounds (fun j st => ∃ i, j = p.ns.l.length - i ∧ i ≤ p.ns.l.length ∧ ((p.ns.l.take i).find? fun f => f.id == id) = none ∧ ∃ J a3 a6 a7 a8 a12 a13 a14 a15 a16 a17 a18 a19 a20 a21, st = ⟨[.agg p.c, iv id, .ptrM d 0 0, a3, .ptrM d 1 0, .bool false, a6, a7, a8, p.ns.v, iv (p.ns.l.length : Nat), iv i, a12, a13, a14, a15, a16, a17, a18, a19, a20, a21], .cells [p.ns.v, p.as.v, p.fs.v] :: .cells zNd.c :: J⟩) p.ns.l.length (by omega) ⟨0, by omega, by omega, by simp, [], _, _, _, _, _, _, _, _, _, _, _, _, _, _, rfl⟩ ?_
    rintro j st K ⟨i, rfl, hi, hc, J, a3, a6, a7, a8, a12, a13, a14, a15, a16, a17, a18, a19, a20, a21, rfl⟩ hn he hr
    by_cases h : i < p.ns.l.length
    · have hx : p.ns.l[i]? = some p.ns.l[i] := List.getElem?_eq_getElem h
      generalize p.ns.l[i] = x at hx
      have hrd : rdN (p.ns.l.flatMap Nd.c) (i * 3) 3 = some x.c := (rdN_flat Nd.c_len 0 3 hx (by omega)).trans rfl
      have hw : wrapI .i64 ((i : Int) + 1) = ((i + 1 : Nat) : Int) := wrap_succ (by have := p.ns.few; omega)
      cases hb : x.id == id
      · simp only [Wall, e_nilchk, e_pick, e_box, e_bslice, e_load, e_store, e_eqb, e_eqp, e_eqs, e_eqagg, e_conv, e_faddr, e_field, e_extract, e_call, e_mx, mkAt, List.replicate, List.cons_append, List.nil_append, List.append_nil, List.all_cons, List.all_nil, Bool.and_self, Bool.and_true, Bool.true_and, if_true, List.length_nil, List.length_cons, Nat.zero_add, Nat.add_zero, Nat.reduceAdd, Nat.reduceMul, Nat.reduceLeDiff, Nat.le_refl, and_self, and_true, true_and, List.getElem?_cons_zero, List.getElem?_cons_succ, look, mkv, Option.map_some, Option.map_none, Option.bind_some, Bool.false_eq_true, if_false, List.map_cons, List.map_nil, binI, intBin, isShift, unI, reduceCtorEq, fillI, Nat.reduceEqDiff, Int.ofNat_lt, decide_true, decide_false, beq_iff_eq, cellV, List.append_assoc, List.length_append, Bool.not_true, Bool.not_false, h, iaddrV_sl p.ns h, hrd, hb, hw, Nd.c, zNd_c]
        refine hn _ (p.ns.l.length - (i + 1)) (by omega) ⟨i + 1, rfl, by omega, find_next hc hx hb, _, _, _, _, _, _, _, _, _, _, _, _, _, _, _, rfl⟩
      · have hxf := find_hit (p := fun f => f.id == id) hc hx hb
        rw [hf] at hxf
        simp at hxf
    · have hxf := find_end hc h
      rw [hf] at hxf
      simp only [Wall, e_nilchk, e_pick, e_box, e_bslice, e_load, e_store, e_eqb, e_eqp, e_eqs, e_eqagg, e_conv, e_faddr, e_field, e_extract, e_call, e_mx, mkAt, List.replicate, List.cons_append, List.nil_append, List.append_nil, List.all_cons, List.all_nil, Bool.and_self, Bool.and_true, Bool.true_and, if_true, List.length_nil, List.length_cons, Nat.zero_add, Nat.add_zero, Nat.reduceAdd, Nat.reduceMul, Nat.reduceLeDiff, Nat.le_refl, and_self, and_true, true_and, List.getElem?_cons_zero, List.getElem?_cons_succ, look, mkv, Option.map_some, Option.map_none, Option.bind_some, Bool.false_eq_true, if_false, List.map_cons, List.map_nil, binI, intBin, isShift, unI, reduceCtorEq, fillI, Nat.reduceEqDiff, Int.ofNat_lt, decide_true, decide_false, beq_iff_eq, cellV, List.append_assoc, List.length_append, Bool.not_true, Bool.not_false, h, zNd_c]
      refine he _ _ ?_
      simp only [Wall, e_nilchk, e_pick, e_box, e_bslice, e_load, e_store, e_eqb, e_eqp, e_eqs, e_eqagg, e_conv, e_faddr, e_field, e_extract, e_call, e_mx, mkAt, List.replicate, List.cons_append, List.nil_append, List.append_nil, List.all_cons, List.all_nil, Bool.and_self, Bool.and_true, Bool.true_and, if_true, List.length_nil, List.length_cons, Nat.zero_add, Nat.add_zero, Nat.reduceAdd, Nat.reduceMul, Nat.reduceLeDiff, Nat.le_refl, and_self, and_true, true_and, List.getElem?_cons_zero, List.getElem?_cons_succ, look, mkv, Option.map_some, Option.map_none, Option.bind_some, Bool.false_eq_true, if_false, List.map_cons, List.map_nil, binI, intBin, isShift, unI, reduceCtorEq, fillI, Nat.reduceEqDiff, Int.ofNat_lt, decide_true, decide_false, beq_iff_eq, cellV, List.append_assoc, List.length_append, Bool.not_true, Bool.not_false, zNd_c]
      rfl
  | some f0 =>
    refine gives_fz (i := i24) (k := 1 + 1 + 1) (hS _ _ (by decide) (by decide) (by decide) (by decide)) rfl rfl (gives_node_fz1 f0) (p.ns.l.length + 8) (by omega) fun m hm d out => ?_
    simp only [i24, Wall, e_nilchk, e_pick, e_box, e_bslice, e_load, e_store, e_eqb, e_eqp, e_eqs, e_eqagg, e_conv, e_faddr, e_field, e_extract, e_call, e_mx, mkAt, List.replicate, List.cons_append, List.nil_append, List.append_nil, List.all_cons, List.all_nil, Bool.and_self, Bool.and_true, Bool.true_and, if_true, List.length_nil, List.length_cons, Nat.zero_add, Nat.add_zero, Nat.reduceAdd, Nat.reduceMul, Nat.reduceLeDiff, Nat.le_refl, and_self, and_true, true_and, List.getElem?_cons_zero, List.getElem?_cons_succ, look, mkv, Option.map_some, Option.map_none, Option.bind_some, Bool.false_eq_true, if_false, List.map_cons, List.map_nil, binI, intBin, isShift, unI, reduceCtorEq, fillI, Nat.reduceEqDiff, Int.ofNat_lt, decide_true, decide_false, beq_iff_eq, cellV, List.append_assoc, List.length_append, Bool.not_true, Bool.not_false, Pn.c]
    refine ex_rounds (fun j st => ∃ i, j = p.ns.l.length - i ∧ i ≤ p.ns.l.length ∧ ((p.ns.l.take i).find? fun f => f.id == id) = none ∧ ∃ J a3 a6 a7 a8 a12 a13 a14 a15 a16 a17 a18 a19 a20 a21, st = ⟨[.agg p.c, iv id, .ptrM d 0 0, a3, .ptrM d 1 0, .bool false, a6, a7, a8, p.ns.v, iv (p.ns.l.length : Nat), iv i, a12, a13, a14, a15, a16, a17, a18, a19, a20, a21], .cells [p.ns.v, p.as.v, p.fs.v] :: .cells zNd.c :: J⟩) p.ns.l.length (by omega) ⟨0, by omega, by omega, by simp, [], _, _, _, _, _, _, _, _, _, _, _, _, _, _, rfl⟩ ?_
    rintro j st K ⟨i, rfl, hi, hc, J, a3, a6, a7, a8, a12, a13, a14, a15, a16, a17, a18, a19, a20, a21, rfl⟩ hn he hr
    by_cases h : i < p.ns.l.length
    · have hx : p.ns.l[i]? = some p.ns.l[i] := List.getElem?_eq_getElem h
      generalize p.ns.l[i] = x at hx
      have hrd : rdN (p.ns.l.flatMap Nd.c) (i * 3) 3 = some x.c := (rdN_flat Nd.c_len 0 3 hx (by omega)).trans rfl
      have hw : wrapI .i64 ((i : Int) + 1) = ((i + 1 : Nat) : Int) := wrap_succ (by have := p.ns.few; omega)
      cases hb : x.id == id
      · simp only [Wall, e_nilchk, e_pick, e_box, e_bslice, e_load, e_store, e_eqb, e_eqp, e_eqs, e_eqagg, e_conv, e_faddr, e_field, e_extract, e_call, e_mx, mkAt, List.replicate, List.cons_append, List.nil_append, List.append_nil, List.all_cons, List.all_nil, Bool.and_self, Bool.and_true, Bool.true_and, if_true, List.length_nil, List.length_cons, Nat.zero_add, Nat.add_zero, Nat.reduceAdd, Nat.reduceMul, Nat.reduceLeDiff, Nat.le_refl, and_self, and_true, true_and, List.getElem?_cons_zero, List.getElem?_cons_succ, look, mkv, Option.map_some, Option.map_none, Option.bind_some, Bool.false_eq_true, if_false, List.map_cons, List.map_nil, binI, intBin, isShift, unI, reduceCtorEq, fillI, Nat.reduceEqDiff, Int.ofNat_lt, decide_true, decide_false, beq_iff_eq, cellV, List.append_assoc, List.length_append, Bool.not_true, Bool.not_false, h, iaddrV_sl p.ns h, hrd, hb, hw, Nd.c, zNd_c]
        refine hn _ (p.ns.l.length - (i + 1)) (by omega) ⟨i + 1, rfl, by omega, find_next hc hx hb, _, _, _, _, _, _, _, _, _, _, _, _, _, _, _, rfl⟩
      · have hxf := find_hit (p := fun f => f.id == id) hc hx hb
        rw [hf] at hxf
        obtain rfl := Option.some.inj hxf
        simp only [Wall, e_nilchk, e_pick, e_box, e_bslice, e_load, e_store, e_eqb, e_eqp, e_eqs, e_eqagg, e_conv, e_faddr, e_field, e_extract, e_call, e_mx, mkAt, List.replicate, List.cons_append, List.nil_append, List.append_nil, List.all_cons, List.all_nil, Bool.and_self, Bool.and_true, Bool.true_and, if_true, List.length_nil, List.length_cons, Nat.zero_add, Nat.add_zero, Nat.reduceAdd, Nat.reduceMul, Nat.reduceLeDiff, Nat.le_refl, and_self, and_true, true_and, List.getElem?_cons_zero, List.getElem?_cons_succ, look, mkv, Option.map_some, Option.map_none, Option.bind_some, Bool.false_eq_true, if_false, List.map_cons, List.map_nil, binI, intBin, isShift, unI, reduceCtorEq, fillI, Nat.reduceEqDiff, Int.ofNat_lt, decide_true, decide_false, beq_iff_eq, cellV, List.append_assoc, List.length_append, Bool.not_true, Bool.not_false, h, iaddrV_sl p.ns h, hrd, hb, Nd.c, zNd_c]
        refine hr _ ?_
        simp only [Wall, e_nilchk, e_pick, e_box, e_bslice, e_load, e_store, e_eqb, e_eqp, e_eqs, e_eqagg, e_conv, e_faddr, e_field, e_extract, e_call, e_mx, mkAt, List.replicate, List.cons_append, List.nil_append, List.append_nil, List.all_cons, List.all_nil, Bool.and_self, Bool.and_true, Bool.true_and, if_true, List.length_nil, List.length_cons, Nat.zero_add, Nat.add_zero, Nat.reduceAdd, Nat.reduceMul, Nat.reduceLeDiff, Nat.le_refl, and_self, and_true, true_and, List.getElem?_cons_zero, List.getElem?_cons_succ, look, mkv, Option.map_some, Option.map_none, Option.bind_some, Bool.false_eq_true, if_false, List.map_cons, List.map_nil, binI, intBin, isShift, unI, reduceCtorEq, fillI, Nat.reduceEqDiff, Int.ofNat_lt, decide_true, decide_false, beq_iff_eq, cellV, List.append_assoc, List.length_append, Bool.not_true, Bool.not_false, zNd_c]
        rfl
    · have hxf := find_end hc h
      rw [hf] at hxf
      simp at hxf
end
end Go.Proofs.YtbfljfjjnijigaaGreatDoor
end
section
namespace Go.Proofs.YtbfljfjjnijigaaGreatDoor
open Go Go.RowKit
set_option maxRecDepth 100000
section
variable {d k n0 : Nat} {lk : Nat → Nat → Option IObj} {own : List IObj} {p p' : IV}
theorem app_zero {sz z len slot : Nat} {cs new : List IV} {tight : Bool} : appendI d n0 lk own sz (.slC cs len z tight) new 0 slot = some (.r, .slC cs len z tight, own) := by
  unfold appendI
  rw [if_pos rfl]
theorem mapM_c {f : IV → Option IV} {x y : IV} {l l' : List IV} (h : f x = some y) (h2 : l.mapM f = some l') : (x :: l).mapM f = some (y :: l') := by
  rw [List.mapM_cons, h, h2]
  rfl
theorem mapM_n {f : IV → Option IV} : ([] : List IV).mapM f = some [] := rfl
theorem freeze_tuple {cs cs' : List IV} (h : cs.mapM (freeze k d own) = some cs') : freeze (k + 1) d own (.tuple cs) = some (.tuple cs') := by simp only [freeze, h, Option.map_some]
theorem freeze_agg {cs cs' : List IV} (h : cs.mapM (freeze k d own) = some cs') : freeze (k + 1) d own (.agg cs) = some (.agg cs') := by simp only [freeze, h, Option.map_some]
theorem freeze_ft {a b c : Int} {s : ByteArray} {t : Bool} (hp : freeze (k + 1) d own p = some p') : freeze (k + 1 + 1 + 1) d own (.tuple [.agg [.int .i64 a, .int .i64 b, .int .i64 c, .str s, p], .bool t]) = some (.tuple [.agg [.int .i64 a, .int .i64 b, .int .i64 c, .str s, p'], .bool t]) :=
  freeze_tuple (mapM_c (freeze_agg (mapM_c rfl (mapM_c rfl (mapM_c rfl (mapM_c rfl (mapM_c hp mapM_n)))))) (mapM_c rfl mapM_n))
theorem freeze_ac {a b c e f : Int} {t : Bool} (hp : freeze (k + 1) d own p = some p') : freeze (k + 1 + 1 + 1) d own (.tuple [.agg [.int .i64 a, .int .i64 b, .int .i64 c, p, .int .i64 e, .int .i64 f], .bool t]) = some (.tuple [.agg [.int .i64 a, .int .i64 b, .int .i64 c, p', .int .i64 e, .int .i64 f], .bool t]) :=
  freeze_tuple (mapM_c (freeze_agg (mapM_c rfl (mapM_c rfl (mapM_c rfl (mapM_c hp (mapM_c rfl (mapM_c rfl mapM_n))))))) (mapM_c rfl mapM_n))
theorem freeze_slC0 {sz : Nat} {tight : Bool} : freeze (k + 1) d own (.slC [] 0 sz tight) = some (.slC [] 0 sz tight) := by simp [freeze]
end
section
variable {S : FuncId → List IV → Option IV}
theorem gives_rfind (hS : NoS S) (s : Sv) (id : Int) (hsm : ∀ f ∈ s.ft.l, f.parts.l.length ≤ 1073741824) : ∃ q', q'.l = ((s.ft.l.find? fun f => f.id == id).getD zFt).parts.l ∧
    Gives Ftab S 7 [.agg s.c, iv id] (.tuple [.agg ({ (s.ft.l.find? fun f => f.id == id).getD zFt with parts := q' } : Ft).c, .bool (s.ft.l.find? fun f => f.id == id).isSome]) := by
  cases hf : s.ft.l.find? fun f => f.id == id with
  | none =>
    refine ⟨nilS _ _, rfl, ?_⟩
    refine gives_fz (i := i7) (k := 1 + 1 + 1) (hS _ _ (by decide) (by decide) (by decide) (by decide)) rfl rfl gives_find_fz0 (s.ft.l.length + 5) (by omega) fun m hm d out => ?_
    simp only [i7, Wall, e_nilchk, e_pick, e_box, e_bslice, e_load, e_store, e_eqb, e_eqp, e_eqs, e_eqagg, e_conv, e_faddr, e_field, e_extract, e_call, e_mx, mkAt, List.replicate, List.cons_append, List.nil_append, List.append_nil, List.all_cons, List.all_nil, Bool.and_self, Bool.and_true, Bool.true_and, if_true, List.length_nil, List.length_cons, Nat.zero_add, Nat.add_zero, Nat.reduceAdd, Nat.reduceMul, Nat.reduceLeDiff, Nat.le_refl, and_self, and_true, true_and, List.getElem?_cons_zero, List.getElem?_cons_succ, look, mkv, Option.map_some, Option.map_none, Option.bind_some, Bool.false_eq_true, if_false, List.map_cons, List.map_nil, binI, intBin, isShift, unI, reduceCtorEq, fillI, Nat.reduceEqDiff, Int.ofNat_lt, decide_true, decide_false, beq_iff_eq, cellV, List.append_assoc, List.length_append, Bool.not_true, Bool.not_false, Sv.c]
    refine ex_rounds (fun j st => ∃ i, j = s.ft.l.length - i ∧ i ≤ s.ft.l.length ∧ ((s.ft.l.take i).find? fun f => f.id == id) = none ∧ ∃ J a3 a7 a8 a9 a10 a11 a12 a13 a14 a15 a16 a17 a18 a19 a20 a21 a22 a23 a24 a25 a26 a27 a28 a29 a30 a31 a32 a33 a34, st = ⟨[.agg s.c, iv id, .ptrM d 0 0, a3, .ptrM d 1 0, .bool false, iv i, a7, a8, a9, a10, a11, a12, a13, a14, a15, a16, a17, a18, a19, a20, a21, a22, a23, a24, a25, a26, a27, a28, a29, a30, a31, a32, a33, a34], .cells [s.pl.ns.v, s.pl.as.v, s.pl.fs.v, s.ft.v] :: .cells zFt.c :: J⟩) s.ft.l.length (by omega) ⟨0, by omega, by omega, by simp, [], _, _, _, _, _, _, _, _, _, _, _, _, _, _, _, _, _, _, _, _, _, _, _, _, _, _, _, _, _, rfl⟩ ?_
    rintro j st K ⟨i, rfl, hi, hc, J, a3, a7, a8, a9, a10, a11, a12, a13, a14, a15, a16, a17, a18, a19, a20, a21, a22, a23, a24, a25, a26, a27, a28, a29, a30, a31, a32, a33, a34, rfl⟩ hn he hr
    by_cases h : i < s.ft.l.length
    · have hx : s.ft.l[i]? = some s.ft.l[i] := List.getElem?_eq_getElem h
      generalize s.ft.l[i] = x at hx
      have hrd : rdN (s.ft.l.flatMap Ft.c) (i * 5) 5 = some x.c := (rdN_flat Ft.c_len 0 5 hx (by omega)).trans rfl
      have hrd1 : rdN (s.ft.l.flatMap Ft.c) (i * 5) 1 = some [.int .i64 x.id] := (rdN_flat Ft.c_len 0 1 hx (by omega)).trans rfl
      have hw : wrapI .i64 ((i : Int) + 1) = ((i + 1 : Nat) : Int) := wrap_succ (by have := s.ft.few; omega)
      cases hb : x.id == id
      · simp only [Wall, e_nilchk, e_pick, e_box, e_bslice, e_load, e_store, e_eqb, e_eqp, e_eqs, e_eqagg, e_conv, e_faddr, e_field, e_extract, e_call, e_mx, mkAt, List.replicate, List.cons_append, List.nil_append, List.append_nil, List.all_cons, List.all_nil, Bool.and_self, Bool.and_true, Bool.true_and, if_true, List.length_nil, List.length_cons, Nat.zero_add, Nat.add_zero, Nat.reduceAdd, Nat.reduceMul, Nat.reduceLeDiff, Nat.le_refl, and_self, and_true, true_and, List.getElem?_cons_zero, List.getElem?_cons_succ, look, mkv, Option.map_some, Option.map_none, Option.bind_some, Bool.false_eq_true, if_false, List.map_cons, List.map_nil, binI, intBin, isShift, unI, reduceCtorEq, fillI, Nat.reduceEqDiff, Int.ofNat_lt, decide_true, decide_false, beq_iff_eq, cellV, List.append_assoc, List.length_append, Bool.not_true, Bool.not_false, h, iaddrV_sl s.ft h, hrd1, hb, hw, Ft.c, zFt_c]
        refine hn _ (s.ft.l.length - (i + 1)) (by omega) ⟨i + 1, rfl, by omega, find_next hc hx hb, _, _, _, _, _, _, _, _, _, _, _, _, _, _, _, _, _, _, _, _, _, _, _, _, _, _, _, _, _, _, rfl⟩
      · have hxf := find_hit (p := fun f => f.id == id) hc hx hb
        rw [hf] at hxf
        simp at hxf
    · have hxf := find_end hc h
      rw [hf] at hxf
      simp only [Wall, e_nilchk, e_pick, e_box, e_bslice, e_load, e_store, e_eqb, e_eqp, e_eqs, e_eqagg, e_conv, e_faddr, e_field, e_extract, e_call, e_mx, mkAt, List.replicate, List.cons_append, List.nil_append, List.append_nil, List.all_cons, List.all_nil, Bool.and_self, Bool.and_true, Bool.true_and, if_true, List.length_nil, List.length_cons, Nat.zero_add, Nat.add_zero, Nat.reduceAdd, Nat.reduceMul, Nat.reduceLeDiff, Nat.le_refl, and_self, and_true, true_and, List.getElem?_cons_zero, List.getElem?_cons_succ, look, mkv, Option.map_some, Option.map_none, Option.bind_some, Bool.false_eq_true, if_false, List.map_cons, List.map_nil, binI, intBin, isShift, unI, reduceCtorEq, fillI, Nat.reduceEqDiff, Int.ofNat_lt, decide_true, decide_false, beq_iff_eq, cellV, List.append_assoc, List.length_append, Bool.not_true, Bool.not_false, h, zFt_c]
      refine he _ _ ?_
      simp only [Wall, e_nilchk, e_pick, e_box, e_bslice, e_load, e_store, e_eqb, e_eqp, e_eqs, e_eqagg, e_conv, e_faddr, e_field, e_extract, e_call, e_mx, mkAt, List.replicate, List.cons_append, List.nil_append, List.append_nil, List.all_cons, List.all_nil, Bool.and_self, Bool.and_true, Bool.true_and, if_true, List.length_nil, List.length_cons, Nat.zero_add, Nat.add_zero, Nat.reduceAdd, Nat.reduceMul, Nat.reduceLeDiff, Nat.le_refl, and_self, and_true, true_and, List.getElem?_cons_zero, List.getElem?_cons_succ, look, mkv, Option.map_some, Option.map_none, Option.bind_some, Bool.false_eq_true, if_false, List.map_cons, List.map_nil, binI, intBin, isShift, unI, reduceCtorEq, fillI, Nat.reduceEqDiff, Int.ofNat_lt, decide_true, decide_false, beq_iff_eq, cellV, List.append_assoc, List.length_append, Bool.not_true, Bool.not_false, zFt_c]
      rfl
  | some f0 =>
    have hs0 := hsm f0 (List.mem_of_find?_eq_some hf)
    by_cases h0 : f0.parts.l.length = 0
    · refine ⟨⟨[], .slC [] 0 1 true, .row _ _ _ rfl, by simp⟩, (List.length_eq_zero_iff.1 h0).symm, ?_⟩
      refine gives_fr (i := i7) (hS _ _ (by decide) (by decide) (by decide) (by decide)) rfl rfl (s.ft.l.length + 8) fun m hm d out => ?_
      simp only [i7, Wall, e_nilchk, e_pick, e_box, e_bslice, e_load, e_store, e_eqb, e_eqp, e_eqs, e_eqagg, e_conv, e_faddr, e_field, e_extract, e_call, e_mx, mkAt, List.replicate, List.cons_append, List.nil_append, List.append_nil, List.all_cons, List.all_nil, Bool.and_self, Bool.and_true, Bool.true_and, if_true, List.length_nil, List.length_cons, Nat.zero_add, Nat.add_zero, Nat.reduceAdd, Nat.reduceMul, Nat.reduceLeDiff, Nat.le_refl, and_self, and_true, true_and, List.getElem?_cons_zero, List.getElem?_cons_succ, look, mkv, Option.map_some, Option.map_none, Option.bind_some, Bool.false_eq_true, if_false, List.map_cons, List.map_nil, binI, intBin, isShift, unI, reduceCtorEq, fillI, Nat.reduceEqDiff, Int.ofNat_lt, decide_true, decide_false, beq_iff_eq, cellV, List.append_assoc, List.length_append, Bool.not_true, Bool.not_false, Sv.c]
      refine ex_rounds (fun j st => ∃ i, j = s.ft.l.length - i ∧ i ≤ s.ft.l.length ∧ ((s.ft.l.take i).find? fun f => f.id == id) = none ∧ ∃ J a3 a7 a8 a9 a10 a11 a12 a13 a14 a15 a16 a17 a18 a19 a20 a21 a22 a23 a24 a25 a26 a27 a28 a29 a30 a31 a32 a33 a34, st = ⟨[.agg s.c, iv id, .ptrM d 0 0, a3, .ptrM d 1 0, .bool false, iv i, a7, a8, a9, a10, a11, a12, a13, a14, a15, a16, a17, a18, a19, a20, a21, a22, a23, a24, a25, a26, a27, a28, a29, a30, a31, a32, a33, a34], .cells [s.pl.ns.v, s.pl.as.v, s.pl.fs.v, s.ft.v] :: .cells zFt.c :: J⟩) s.ft.l.length (by omega) ⟨0, by omega, by omega, by simp, [], _, _, _, _, _, _, _, _, _, _, _, _, _, _, _, _, _, _, _, _, _, _, _, _, _, _, _, _, _, rfl⟩ ?_
      rintro j st K ⟨i, rfl, hi, hc, J, a3, a7, a8, a9, a10, a11, a12, a13, a14, a15, a16, a17, a18, a19, a20, a21, a22, a23, a24, a25, a26, a27, a28, a29, a30, a31, a32, a33, a34, rfl⟩ hn he hr
      by_cases h : i < s.ft.l.length
      · have hx : s.ft.l[i]? = some s.ft.l[i] := List.getElem?_eq_getElem h
        generalize s.ft.l[i] = x at hx
        have hrd : rdN (s.ft.l.flatMap Ft.c) (i * 5) 5 = some x.c := (rdN_flat Ft.c_len 0 5 hx (by omega)).trans rfl
        have hrd1 : rdN (s.ft.l.flatMap Ft.c) (i * 5) 1 = some [.int .i64 x.id] := (rdN_flat Ft.c_len 0 1 hx (by omega)).trans rfl
        have hw : wrapI .i64 ((i : Int) + 1) = ((i + 1 : Nat) : Int) := wrap_succ (by have := s.ft.few; omega)
        cases hb : x.id == id
        · simp only [Wall, e_nilchk, e_pick, e_box, e_bslice, e_load, e_store, e_eqb, e_eqp, e_eqs, e_eqagg, e_conv, e_faddr, e_field, e_extract, e_call, e_mx, mkAt, List.replicate, List.cons_append, List.nil_append, List.append_nil, List.all_cons, List.all_nil, Bool.and_self, Bool.and_true, Bool.true_and, if_true, List.length_nil, List.length_cons, Nat.zero_add, Nat.add_zero, Nat.reduceAdd, Nat.reduceMul, Nat.reduceLeDiff, Nat.le_refl, and_self, and_true, true_and, List.getElem?_cons_zero, List.getElem?_cons_succ, look, mkv, Option.map_some, Option.map_none, Option.bind_some, Bool.false_eq_true, if_false, List.map_cons, List.map_nil, binI, intBin, isShift, unI, reduceCtorEq, fillI, Nat.reduceEqDiff, Int.ofNat_lt, decide_true, decide_false, beq_iff_eq, cellV, List.append_assoc, List.length_append, Bool.not_true, Bool.not_false, h, iaddrV_sl s.ft h, hrd1, hb, hw, Ft.c, zFt_c]
          refine hn _ (s.ft.l.length - (i + 1)) (by omega) ⟨i + 1, rfl, by omega, find_next hc hx hb, _, _, _, _, _, _, _, _, _, _, _, _, _, _, _, _, _, _, _, _, _, _, _, _, _, _, _, _, _, _, rfl⟩
        · have hxf := find_hit (p := fun f => f.id == id) hc hx hb
          rw [hf] at hxf
          obtain rfl := Option.some.inj hxf
          simp only [Wall, e_nilchk, e_pick, e_box, e_bslice, e_load, e_store, e_eqb, e_eqp, e_eqs, e_eqagg, e_conv, e_faddr, e_field, e_extract, e_call, e_mx, mkAt, List.replicate, List.cons_append, List.nil_append, List.append_nil, List.all_cons, List.all_nil, Bool.and_self, Bool.and_true, Bool.true_and, if_true, List.length_nil, List.length_cons, Nat.zero_add, Nat.add_zero, Nat.reduceAdd, Nat.reduceMul, Nat.reduceLeDiff, Nat.le_refl, and_self, and_true, true_and, List.getElem?_cons_zero, List.getElem?_cons_succ, look, mkv, Option.map_some, Option.map_none, Option.bind_some, Bool.false_eq_true, if_false, List.map_cons, List.map_nil, binI, intBin, isShift, unI, reduceCtorEq, fillI, Nat.reduceEqDiff, Int.ofNat_lt, decide_true, decide_false, beq_iff_eq, cellV, List.append_assoc, List.length_append, Bool.not_true, Bool.not_false, h, iaddrV_sl s.ft h, hrd1, hrd, hb, Ft.c, zFt_c, ev_append, app_src, rep, cellsI_sl, app_ok, h0, app_zero]
          refine hr _ ?_
          simp only [Wall, e_nilchk, e_pick, e_box, e_bslice, e_load, e_store, e_eqb, e_eqp, e_eqs, e_eqagg, e_conv, e_faddr, e_field, e_extract, e_call, e_mx, mkAt, List.replicate, List.cons_append, List.nil_append, List.append_nil, List.all_cons, List.all_nil, Bool.and_self, Bool.and_true, Bool.true_and, if_true, List.length_nil, List.length_cons, Nat.zero_add, Nat.add_zero, Nat.reduceAdd, Nat.reduceMul, Nat.reduceLeDiff, Nat.le_refl, and_self, and_true, true_and, List.getElem?_cons_zero, List.getElem?_cons_succ, look, mkv, Option.map_some, Option.map_none, Option.bind_some, Bool.false_eq_true, if_false, List.map_cons, List.map_nil, binI, intBin, isShift, unI, reduceCtorEq, fillI, Nat.reduceEqDiff, Int.ofNat_lt, decide_true, decide_false, beq_iff_eq, cellV, List.append_assoc, List.length_append, Bool.not_true, Bool.not_false, zFt_c]
          refine ⟨_, rfl, ?_⟩
          obtain ⟨k, rfl⟩ : ∃ k, m = k + 1 + 1 + 1 := ⟨m - 3, by omega⟩
          exact freeze_ft freeze_slC0
      · have hxf := find_end hc h
        rw [hf] at hxf
        simp at hxf
    · refine ⟨⟨f0.parts.l, .slC (f0.parts.l.flatMap intc) f0.parts.l.length 1 (false && true), .row _ _ _ (flat_len intc_len), f0.parts.few⟩, rfl, ?_⟩
      refine gives_fr (i := i7) (hS _ _ (by decide) (by decide) (by decide) (by decide)) rfl rfl (s.ft.l.length + 8) fun m hm d out => ?_
      simp only [i7, Wall, e_nilchk, e_pick, e_box, e_bslice, e_load, e_store, e_eqb, e_eqp, e_eqs, e_eqagg, e_conv, e_faddr, e_field, e_extract, e_call, e_mx, mkAt, List.replicate, List.cons_append, List.nil_append, List.append_nil, List.all_cons, List.all_nil, Bool.and_self, Bool.and_true, Bool.true_and, if_true, List.length_nil, List.length_cons, Nat.zero_add, Nat.add_zero, Nat.reduceAdd, Nat.reduceMul, Nat.reduceLeDiff, Nat.le_refl, and_self, and_true, true_and, List.getElem?_cons_zero, List.getElem?_cons_succ, look, mkv, Option.map_some, Option.map_none, Option.bind_some, Bool.false_eq_true, if_false, List.map_cons, List.map_nil, binI, intBin, isShift, unI, reduceCtorEq, fillI, Nat.reduceEqDiff, Int.ofNat_lt, decide_true, decide_false, beq_iff_eq, cellV, List.append_assoc, List.length_append, Bool.not_true, Bool.not_false, Sv.c]
      refine ex_rounds (fun j st => ∃ i, j = s.ft.l.length - i ∧ i ≤ s.ft.l.length ∧ ((s.ft.l.take i).find? fun f => f.id == id) = none ∧ ∃ J a3 a7 a8 a9 a10 a11 a12 a13 a14 a15 a16 a17 a18 a19 a20 a21 a22 a23 a24 a25 a26 a27 a28 a29 a30 a31 a32 a33 a34, st = ⟨[.agg s.c, iv id, .ptrM d 0 0, a3, .ptrM d 1 0, .bool false, iv i, a7, a8, a9, a10, a11, a12, a13, a14, a15, a16, a17, a18, a19, a20, a21, a22, a23, a24, a25, a26, a27, a28, a29, a30, a31, a32, a33, a34], .cells [s.pl.ns.v, s.pl.as.v, s.pl.fs.v, s.ft.v] :: .cells zFt.c :: J⟩) s.ft.l.length (by omega) ⟨0, by omega, by omega, by simp, [], _, _, _, _, _, _, _, _, _, _, _, _, _, _, _, _, _, _, _, _, _, _, _, _, _, _, _, _, _, rfl⟩ ?_
      rintro j st K ⟨i, rfl, hi, hc, J, a3, a7, a8, a9, a10, a11, a12, a13, a14, a15, a16, a17, a18, a19, a20, a21, a22, a23, a24, a25, a26, a27, a28, a29, a30, a31, a32, a33, a34, rfl⟩ hn he hr
      by_cases h : i < s.ft.l.length
      · have hx : s.ft.l[i]? = some s.ft.l[i] := List.getElem?_eq_getElem h
        generalize s.ft.l[i] = x at hx
        have hrd : rdN (s.ft.l.flatMap Ft.c) (i * 5) 5 = some x.c := (rdN_flat Ft.c_len 0 5 hx (by omega)).trans rfl
        have hrd1 : rdN (s.ft.l.flatMap Ft.c) (i * 5) 1 = some [.int .i64 x.id] := (rdN_flat Ft.c_len 0 1 hx (by omega)).trans rfl
        have hw : wrapI .i64 ((i : Int) + 1) = ((i + 1 : Nat) : Int) := wrap_succ (by have := s.ft.few; omega)
        cases hb : x.id == id
        · simp only [Wall, e_nilchk, e_pick, e_box, e_bslice, e_load, e_store, e_eqb, e_eqp, e_eqs, e_eqagg, e_conv, e_faddr, e_field, e_extract, e_call, e_mx, mkAt, List.replicate, List.cons_append, List.nil_append, List.append_nil, List.all_cons, List.all_nil, Bool.and_self, Bool.and_true, Bool.true_and, if_true, List.length_nil, List.length_cons, Nat.zero_add, Nat.add_zero, Nat.reduceAdd, Nat.reduceMul, Nat.reduceLeDiff, Nat.le_refl, and_self, and_true, true_and, List.getElem?_cons_zero, List.getElem?_cons_succ, look, mkv, Option.map_some, Option.map_none, Option.bind_some, Bool.false_eq_true, if_false, List.map_cons, List.map_nil, binI, intBin, isShift, unI, reduceCtorEq, fillI, Nat.reduceEqDiff, Int.ofNat_lt, decide_true, decide_false, beq_iff_eq, cellV, List.append_assoc, List.length_append, Bool.not_true, Bool.not_false, h, iaddrV_sl s.ft h, hrd1, hb, hw, Ft.c, zFt_c]
          refine hn _ (s.ft.l.length - (i + 1)) (by omega) ⟨i + 1, rfl, by omega, find_next hc hx hb, _, _, _, _, _, _, _, _, _, _, _, _, _, _, _, _, _, _, _, _, _, _, _, _, _, _, _, _, _, _, rfl⟩
        · have hxf := find_hit (p := fun f => f.id == id) hc hx hb
          rw [hf] at hxf
          obtain rfl := Option.some.inj hxf
          simp only [Wall, e_nilchk, e_pick, e_box, e_bslice, e_load, e_store, e_eqb, e_eqp, e_eqs, e_eqagg, e_conv, e_faddr, e_field, e_extract, e_call, e_mx, mkAt, List.replicate, List.cons_append, List.nil_append, List.append_nil, List.all_cons, List.all_nil, Bool.and_self, Bool.and_true, Bool.true_and, if_true, List.length_nil, List.length_cons, Nat.zero_add, Nat.add_zero, Nat.reduceAdd, Nat.reduceMul, Nat.reduceLeDiff, Nat.le_refl, and_self, and_true, true_and, List.getElem?_cons_zero, List.getElem?_cons_succ, look, mkv, Option.map_some, Option.map_none, Option.bind_some, Bool.false_eq_true, if_false, List.map_cons, List.map_nil, binI, intBin, isShift, unI, reduceCtorEq, fillI, Nat.reduceEqDiff, Int.ofNat_lt, decide_true, decide_false, beq_iff_eq, cellV, List.append_assoc, List.length_append, Bool.not_true, Bool.not_false, h, iaddrV_sl s.ft h, hrd1, hrd, hb, Ft.c, zFt_c, ev_append, app_src, rep, cellsI_sl, app_ok, app_row h0 (show 0 + f0.parts.l.length ≤ 1073741824 by omega)]
          refine hr _ ?_
          simp only [Wall, e_nilchk, e_pick, e_box, e_bslice, e_load, e_store, e_eqb, e_eqp, e_eqs, e_eqagg, e_conv, e_faddr, e_field, e_extract, e_call, e_mx, mkAt, List.replicate, List.cons_append, List.nil_append, List.append_nil, List.all_cons, List.all_nil, Bool.and_self, Bool.and_true, Bool.true_and, if_true, List.length_nil, List.length_cons, Nat.zero_add, Nat.add_zero, Nat.reduceAdd, Nat.reduceMul, Nat.reduceLeDiff, Nat.le_refl, and_self, and_true, true_and, List.getElem?_cons_zero, List.getElem?_cons_succ, look, mkv, Option.map_some, Option.map_none, Option.bind_some, Bool.false_eq_true, if_false, List.map_cons, List.map_nil, binI, intBin, isShift, unI, reduceCtorEq, fillI, Nat.reduceEqDiff, Int.ofNat_lt, decide_true, decide_false, beq_iff_eq, cellV, List.append_assoc, List.length_append, Bool.not_true, Bool.not_false, zFt_c]
          refine ⟨_, rfl, ?_⟩
          obtain ⟨k, rfl⟩ : ∃ k, m = k + 1 + 1 + 1 := ⟨m - 3, by omega⟩
          exact freeze_ft (freeze_slM (k := 1) intc_fz (by omega) rfl intc_len (by simp only [Wall, e_nilchk, e_pick, e_box, e_bslice, e_load, e_store, e_eqb, e_eqp, e_eqs, e_eqagg, e_conv, e_faddr, e_field, e_extract, e_call, e_mx, mkAt, List.replicate, List.cons_append, List.nil_append, List.append_nil, List.all_cons, List.all_nil, Bool.and_self, Bool.and_true, Bool.true_and, if_true, List.length_nil, List.length_cons, Nat.zero_add, Nat.add_zero, Nat.reduceAdd, Nat.reduceMul, Nat.reduceLeDiff, Nat.le_refl, and_self, and_true, true_and, List.getElem?_cons_zero, List.getElem?_cons_succ, look, mkv, Option.map_some, Option.map_none, Option.bind_some, Bool.false_eq_true, if_false, List.map_cons, List.map_nil, binI, intBin, isShift, unI, reduceCtorEq, fillI, Nat.reduceEqDiff, Int.ofNat_lt, decide_true, decide_false, beq_iff_eq, cellV, List.append_assoc, List.length_append, Bool.not_true, Bool.not_false]))
      · have hxf := find_end hc h
        rw [hf] at hxf
        simp at hxf
theorem gives_rarc (hS : NoS S) (p : Pn) (id : Int) (hsm : ∀ f ∈ p.as.l, f.via.l.length ≤ 1073741824) : ∃ q', q'.l = ((p.as.l.find? fun f => f.id == id).getD zAc).via.l ∧
    Gives Ftab S 72 [.agg p.c, iv id] (.tuple [.agg ({ (p.as.l.find? fun f => f.id == id).getD zAc with via := q' } : Ac).c, .bool (p.as.l.find? fun f => f.id == id).isSome]) := by
  cases hf : p.as.l.find? fun f => f.id == id with
  | none =>
    refine ⟨nilS _ _, rfl, ?_⟩
    refine gives_fz (i := i72) (k := 1 + 1 + 1) (hS _ _ (by decide) (by decide) (by decide) (by decide)) rfl rfl gives_arc_fz0 (p.as.l.length + 5) (by omega) fun m hm d out => ?_
    simp only [i72, Wall, e_nilchk, e_pick, e_box, e_bslice, e_load, e_store, e_eqb, e_eqp, e_eqs, e_eqagg, e_conv, e_faddr, e_field, e_extract, e_call, e_mx, mkAt, List.replicate, List.cons_append, List.nil_append, List.append_nil, List.all_cons, List.all_nil, Bool.and_self, Bool.and_true, Bool.true_and, if_true, List.length_nil, List.length_cons, Nat.zero_add, Nat.add_zero, Nat.reduceAdd, Nat.reduceMul, Nat.reduceLeDiff, Nat.le_refl, and_self, and_true, true_and, List.getElem?_cons_zero, List.getElem?_cons_succ, look, mkv, Option.map_some, Option.map_none, Option.bind_some, Bool.false_eq_true, if_false, List.map_cons, List.map_nil, binI, intBin, isShift, unI, reduceCtorEq, fillI, Nat.reduceEqDiff, Int.ofNat_lt, decide_true, decide_false, beq_iff_eq, cellV, List.append_assoc, List.length_append, Bool.not_true, Bool.not_false, Pn.c]
    refine ex_rounds (fun j st => ∃ i, j = p.as.l.length - i ∧ i ≤ p.as.l.length ∧ ((p.as.l.take i).find? fun f => f.id == id) = none ∧ ∃ J a3 a7 a8 a9 a10 a11 a12 a13 a14 a15 a16 a17 a18 a19 a20 a21 a22 a23 a24 a25 a26 a27 a28 a29 a30 a31 a32 a33 a34, st = ⟨[.agg p.c, iv id, .ptrM d 0 0, a3, .ptrM d 1 0, .bool false, iv i, a7, a8, a9, a10, a11, a12, a13, a14, a15, a16, a17, a18, a19, a20, a21, a22, a23, a24, a25, a26, a27, a28, a29, a30, a31, a32, a33, a34], .cells [p.ns.v, p.as.v, p.fs.v] :: .cells zAc.c :: J⟩) p.as.l.length (by omega) ⟨0, by omega, by omega, by simp, [], _, _, _, _, _, _, _, _, _, _, _, _, _, _, _, _, _, _, _, _, _, _, _, _, _, _, _, _, _, rfl⟩ ?_
    rintro j st K ⟨i, rfl, hi, hc, J, a3, a7, a8, a9, a10, a11, a12, a13, a14, a15, a16, a17, a18, a19, a20, a21, a22, a23, a24, a25, a26, a27, a28, a29, a30, a31, a32, a33, a34, rfl⟩ hn he hr
    by_cases h : i < p.as.l.length
    · have hx : p.as.l[i]? = some p.as.l[i] := List.getElem?_eq_getElem h
      generalize p.as.l[i] = x at hx
      have hrd : rdN (p.as.l.flatMap Ac.c) (i * 6) 6 = some x.c := (rdN_flat Ac.c_len 0 6 hx (by omega)).trans rfl
      have hrd1 : rdN (p.as.l.flatMap Ac.c) (i * 6) 1 = some [.int .i64 x.id] := (rdN_flat Ac.c_len 0 1 hx (by omega)).trans rfl
      have hw : wrapI .i64 ((i : Int) + 1) = ((i + 1 : Nat) : Int) := wrap_succ (by have := p.as.few; omega)
      cases hb : x.id == id
      · simp only [Wall, e_nilchk, e_pick, e_box, e_bslice, e_load, e_store, e_eqb, e_eqp, e_eqs, e_eqagg, e_conv, e_faddr, e_field, e_extract, e_call, e_mx, mkAt, List.replicate, List.cons_append, List.nil_append, List.append_nil, List.all_cons, List.all_nil, Bool.and_self, Bool.and_true, Bool.true_and, if_true, List.length_nil, List.length_cons, Nat.zero_add, Nat.add_zero, Nat.reduceAdd, Nat.reduceMul, Nat.reduceLeDiff, Nat.le_refl, and_self, and_true, true_and, List.getElem?_cons_zero, List.getElem?_cons_succ, look, mkv, Option.map_some, Option.map_none, Option.bind_some, Bool.false_eq_true, if_false, List.map_cons, List.map_nil, binI, intBin, isShift, unI, reduceCtorEq, fillI, Nat.reduceEqDiff, Int.ofNat_lt, decide_true, decide_false, beq_iff_eq, cellV, List.append_assoc, List.length_append, Bool.not_true, Bool.not_false, h, iaddrV_sl p.as h, hrd1, hb, hw, Ac.c, zAc_c]
        refine hn _ (p.as.l.length - (i + 1)) (by omega) ⟨i + 1, rfl, by omega, find_next hc hx hb, _, _, _, _, _, _, _, _, _, _, _, _, _, _, _, _, _, _, _, _, _, _, _, _, _, _, _, _, _, _, rfl⟩
      · have hxf := find_hit (p := fun f => f.id == id) hc hx hb
        rw [hf] at hxf
        simp at hxf
    · have hxf := find_end hc h
      rw [hf] at hxf
      simp only [Wall, e_nilchk, e_pick, e_box, e_bslice, e_load, e_store, e_eqb, e_eqp, e_eqs, e_eqagg, e_conv, e_faddr, e_field, e_extract, e_call, e_mx, mkAt, List.replicate, List.cons_append, List.nil_append, List.append_nil, List.all_cons, List.all_nil, Bool.and_self, Bool.and_true, Bool.true_and, if_true, List.length_nil, List.length_cons, Nat.zero_add, Nat.add_zero, Nat.reduceAdd, Nat.reduceMul, Nat.reduceLeDiff, Nat.le_refl, and_self, and_true, true_and, List.getElem?_cons_zero, List.getElem?_cons_succ, look, mkv, Option.map_some, Option.map_none, Option.bind_some, Bool.false_eq_true, if_false, List.map_cons, List.map_nil, binI, intBin, isShift, unI, reduceCtorEq, fillI, Nat.reduceEqDiff, Int.ofNat_lt, decide_true, decide_false, beq_iff_eq, cellV, List.append_assoc, List.length_append, Bool.not_true, Bool.not_false, h, zAc_c]
      refine he _ _ ?_
      simp only [Wall, e_nilchk, e_pick, e_box, e_bslice, e_load, e_store, e_eqb, e_eqp, e_eqs, e_eqagg, e_conv, e_faddr, e_field, e_extract, e_call, e_mx, mkAt, List.replicate, List.cons_append, List.nil_append, List.append_nil, List.all_cons, List.all_nil, Bool.and_self, Bool.and_true, Bool.true_and, if_true, List.length_nil, List.length_cons, Nat.zero_add, Nat.add_zero, Nat.reduceAdd, Nat.reduceMul, Nat.reduceLeDiff, Nat.le_refl, and_self, and_true, true_and, List.getElem?_cons_zero, List.getElem?_cons_succ, look, mkv, Option.map_some, Option.map_none, Option.bind_some, Bool.false_eq_true, if_false, List.map_cons, List.map_nil, binI, intBin, isShift, unI, reduceCtorEq, fillI, Nat.reduceEqDiff, Int.ofNat_lt, decide_true, decide_false, beq_iff_eq, cellV, List.append_assoc, List.length_append, Bool.not_true, Bool.not_false, zAc_c]
      rfl
  | some f0 =>
    have hs0 := hsm f0 (List.mem_of_find?_eq_some hf)
    by_cases h0 : f0.via.l.length = 0
    · refine ⟨⟨[], .slC [] 0 2 true, .row _ _ _ rfl, by simp⟩, (List.length_eq_zero_iff.1 h0).symm, ?_⟩
      refine gives_fr (i := i72) (hS _ _ (by decide) (by decide) (by decide) (by decide)) rfl rfl (p.as.l.length + 8) fun m hm d out => ?_
      simp only [i72, Wall, e_nilchk, e_pick, e_box, e_bslice, e_load, e_store, e_eqb, e_eqp, e_eqs, e_eqagg, e_conv, e_faddr, e_field, e_extract, e_call, e_mx, mkAt, List.replicate, List.cons_append, List.nil_append, List.append_nil, List.all_cons, List.all_nil, Bool.and_self, Bool.and_true, Bool.true_and, if_true, List.length_nil, List.length_cons, Nat.zero_add, Nat.add_zero, Nat.reduceAdd, Nat.reduceMul, Nat.reduceLeDiff, Nat.le_refl, and_self, and_true, true_and, List.getElem?_cons_zero, List.getElem?_cons_succ, look, mkv, Option.map_some, Option.map_none, Option.bind_some, Bool.false_eq_true, if_false, List.map_cons, List.map_nil, binI, intBin, isShift, unI, reduceCtorEq, fillI, Nat.reduceEqDiff, Int.ofNat_lt, decide_true, decide_false, beq_iff_eq, cellV, List.append_assoc, List.length_append, Bool.not_true, Bool.not_false, Pn.c]
      refine ex_rounds (fun j st => ∃ i, j = p.as.l.length - i ∧ i ≤ p.as.l.length ∧ ((p.as.l.take i).find? fun f => f.id == id) = none ∧ ∃ J a3 a7 a8 a9 a10 a11 a12 a13 a14 a15 a16 a17 a18 a19 a20 a21 a22 a23 a24 a25 a26 a27 a28 a29 a30 a31 a32 a33 a34, st = ⟨[.agg p.c, iv id, .ptrM d 0 0, a3, .ptrM d 1 0, .bool false, iv i, a7, a8, a9, a10, a11, a12, a13, a14, a15, a16, a17, a18, a19, a20, a21, a22, a23, a24, a25, a26, a27, a28, a29, a30, a31, a32, a33, a34], .cells [p.ns.v, p.as.v, p.fs.v] :: .cells zAc.c :: J⟩) p.as.l.length (by omega) ⟨0, by omega, by omega, by simp, [], _, _, _, _, _, _, _, _, _, _, _, _, _, _, _, _, _, _, _, _, _, _, _, _, _, _, _, _, _, rfl⟩ ?_
      rintro j st K ⟨i, rfl, hi, hc, J, a3, a7, a8, a9, a10, a11, a12, a13, a14, a15, a16, a17, a18, a19, a20, a21, a22, a23, a24, a25, a26, a27, a28, a29, a30, a31, a32, a33, a34, rfl⟩ hn he hr
      by_cases h : i < p.as.l.length
      · have hx : p.as.l[i]? = some p.as.l[i] := List.getElem?_eq_getElem h
        generalize p.as.l[i] = x at hx
        have hrd : rdN (p.as.l.flatMap Ac.c) (i * 6) 6 = some x.c := (rdN_flat Ac.c_len 0 6 hx (by omega)).trans rfl
        have hrd1 : rdN (p.as.l.flatMap Ac.c) (i * 6) 1 = some [.int .i64 x.id] := (rdN_flat Ac.c_len 0 1 hx (by omega)).trans rfl
        have hw : wrapI .i64 ((i : Int) + 1) = ((i + 1 : Nat) : Int) := wrap_succ (by have := p.as.few; omega)
        cases hb : x.id == id
        · simp only [Wall, e_nilchk, e_pick, e_box, e_bslice, e_load, e_store, e_eqb, e_eqp, e_eqs, e_eqagg, e_conv, e_faddr, e_field, e_extract, e_call, e_mx, mkAt, List.replicate, List.cons_append, List.nil_append, List.append_nil, List.all_cons, List.all_nil, Bool.and_self, Bool.and_true, Bool.true_and, if_true, List.length_nil, List.length_cons, Nat.zero_add, Nat.add_zero, Nat.reduceAdd, Nat.reduceMul, Nat.reduceLeDiff, Nat.le_refl, and_self, and_true, true_and, List.getElem?_cons_zero, List.getElem?_cons_succ, look, mkv, Option.map_some, Option.map_none, Option.bind_some, Bool.false_eq_true, if_false, List.map_cons, List.map_nil, binI, intBin, isShift, unI, reduceCtorEq, fillI, Nat.reduceEqDiff, Int.ofNat_lt, decide_true, decide_false, beq_iff_eq, cellV, List.append_assoc, List.length_append, Bool.not_true, Bool.not_false, h, iaddrV_sl p.as h, hrd1, hb, hw, Ac.c, zAc_c]
          refine hn _ (p.as.l.length - (i + 1)) (by omega) ⟨i + 1, rfl, by omega, find_next hc hx hb, _, _, _, _, _, _, _, _, _, _, _, _, _, _, _, _, _, _, _, _, _, _, _, _, _, _, _, _, _, _, rfl⟩
        · have hxf := find_hit (p := fun f => f.id == id) hc hx hb
          rw [hf] at hxf
          obtain rfl := Option.some.inj hxf
          simp only [Wall, e_nilchk, e_pick, e_box, e_bslice, e_load, e_store, e_eqb, e_eqp, e_eqs, e_eqagg, e_conv, e_faddr, e_field, e_extract, e_call, e_mx, mkAt, List.replicate, List.cons_append, List.nil_append, List.append_nil, List.all_cons, List.all_nil, Bool.and_self, Bool.and_true, Bool.true_and, if_true, List.length_nil, List.length_cons, Nat.zero_add, Nat.add_zero, Nat.reduceAdd, Nat.reduceMul, Nat.reduceLeDiff, Nat.le_refl, and_self, and_true, true_and, List.getElem?_cons_zero, List.getElem?_cons_succ, look, mkv, Option.map_some, Option.map_none, Option.bind_some, Bool.false_eq_true, if_false, List.map_cons, List.map_nil, binI, intBin, isShift, unI, reduceCtorEq, fillI, Nat.reduceEqDiff, Int.ofNat_lt, decide_true, decide_false, beq_iff_eq, cellV, List.append_assoc, List.length_append, Bool.not_true, Bool.not_false, h, iaddrV_sl p.as h, hrd1, hrd, hb, Ac.c, zAc_c, ev_append, app_src, rep, cellsI_sl, app_ok, h0, app_zero]
          refine hr _ ?_
          simp only [Wall, e_nilchk, e_pick, e_box, e_bslice, e_load, e_store, e_eqb, e_eqp, e_eqs, e_eqagg, e_conv, e_faddr, e_field, e_extract, e_call, e_mx, mkAt, List.replicate, List.cons_append, List.nil_append, List.append_nil, List.all_cons, List.all_nil, Bool.and_self, Bool.and_true, Bool.true_and, if_true, List.length_nil, List.length_cons, Nat.zero_add, Nat.add_zero, Nat.reduceAdd, Nat.reduceMul, Nat.reduceLeDiff, Nat.le_refl, and_self, and_true, true_and, List.getElem?_cons_zero, List.getElem?_cons_succ, look, mkv, Option.map_some, Option.map_none, Option.bind_some, Bool.false_eq_true, if_false, List.map_cons, List.map_nil, binI, intBin, isShift, unI, reduceCtorEq, fillI, Nat.reduceEqDiff, Int.ofNat_lt, decide_true, decide_false, beq_iff_eq, cellV, List.append_assoc, List.length_append, Bool.not_true, Bool.not_false, zAc_c]
          refine ⟨_, rfl, ?_⟩
          obtain ⟨k, rfl⟩ : ∃ k, m = k + 1 + 1 + 1 := ⟨m - 3, by omega⟩
          exact freeze_ac freeze_slC0
      · have hxf := find_end hc h
        rw [hf] at hxf
        simp at hxf
    · refine ⟨⟨f0.via.l, .slC (f0.via.l.flatMap Pt.c) f0.via.l.length 2 (false && true), .row _ _ _ (flat_len Pt.c_len), f0.via.few⟩, rfl, ?_⟩
      refine gives_fr (i := i72) (hS _ _ (by decide) (by decide) (by decide) (by decide)) rfl rfl (p.as.l.length + 8) fun m hm d out => ?_
      simp only [i72, Wall, e_nilchk, e_pick, e_box, e_bslice, e_load, e_store, e_eqb, e_eqp, e_eqs, e_eqagg, e_conv, e_faddr, e_field, e_extract, e_call, e_mx, mkAt, List.replicate, List.cons_append, List.nil_append, List.append_nil, List.all_cons, List.all_nil, Bool.and_self, Bool.and_true, Bool.true_and, if_true, List.length_nil, List.length_cons, Nat.zero_add, Nat.add_zero, Nat.reduceAdd, Nat.reduceMul, Nat.reduceLeDiff, Nat.le_refl, and_self, and_true, true_and, List.getElem?_cons_zero, List.getElem?_cons_succ, look, mkv, Option.map_some, Option.map_none, Option.bind_some, Bool.false_eq_true, if_false, List.map_cons, List.map_nil, binI, intBin, isShift, unI, reduceCtorEq, fillI, Nat.reduceEqDiff, Int.ofNat_lt, decide_true, decide_false, beq_iff_eq, cellV, List.append_assoc, List.length_append, Bool.not_true, Bool.not_false, Pn.c]
      refine ex_rounds (fun j st => ∃ i, j = p.as.l.length - i ∧ i ≤ p.as.l.length ∧ ((p.as.l.take i).find? fun f => f.id == id) = none ∧ ∃ J a3 a7 a8 a9 a10 a11 a12 a13 a14 a15 a16 a17 a18 a19 a20 a21 a22 a23 a24 a25 a26 a27 a28 a29 a30 a31 a32 a33 a34, st = ⟨[.agg p.c, iv id, .ptrM d 0 0, a3, .ptrM d 1 0, .bool false, iv i, a7, a8, a9, a10, a11, a12, a13, a14, a15, a16, a17, a18, a19, a20, a21, a22, a23, a24, a25, a26, a27, a28, a29, a30, a31, a32, a33, a34], .cells [p.ns.v, p.as.v, p.fs.v] :: .cells zAc.c :: J⟩) p.as.l.length (by omega) ⟨0, by omega, by omega, by simp, [], _, _, _, _, _, _, _, _, _, _, _, _, _, _, _, _, _, _, _, _, _, _, _, _, _, _, _, _, _, rfl⟩ ?_
      rintro j st K ⟨i, rfl, hi, hc, J, a3, a7, a8, a9, a10, a11, a12, a13, a14, a15, a16, a17, a18, a19, a20, a21, a22, a23, a24, a25, a26, a27, a28, a29, a30, a31, a32, a33, a34, rfl⟩ hn he hr
      by_cases h : i < p.as.l.length
      · have hx : p.as.l[i]? = some p.as.l[i] := List.getElem?_eq_getElem h
        generalize p.as.l[i] = x at hx
        have hrd : rdN (p.as.l.flatMap Ac.c) (i * 6) 6 = some x.c := (rdN_flat Ac.c_len 0 6 hx (by omega)).trans rfl
        have hrd1 : rdN (p.as.l.flatMap Ac.c) (i * 6) 1 = some [.int .i64 x.id] := (rdN_flat Ac.c_len 0 1 hx (by omega)).trans rfl
        have hw : wrapI .i64 ((i : Int) + 1) = ((i + 1 : Nat) : Int) := wrap_succ (by have := p.as.few; omega)
        cases hb : x.id == id
        · simp only [Wall, e_nilchk, e_pick, e_box, e_bslice, e_load, e_store, e_eqb, e_eqp, e_eqs, e_eqagg, e_conv, e_faddr, e_field, e_extract, e_call, e_mx, mkAt, List.replicate, List.cons_append, List.nil_append, List.append_nil, List.all_cons, List.all_nil, Bool.and_self, Bool.and_true, Bool.true_and, if_true, List.length_nil, List.length_cons, Nat.zero_add, Nat.add_zero, Nat.reduceAdd, Nat.reduceMul, Nat.reduceLeDiff, Nat.le_refl, and_self, and_true, true_and, List.getElem?_cons_zero, List.getElem?_cons_succ, look, mkv, Option.map_some, Option.map_none, Option.bind_some, Bool.false_eq_true, if_false, List.map_cons, List.map_nil, binI, intBin, isShift, unI, reduceCtorEq, fillI, Nat.reduceEqDiff, Int.ofNat_lt, decide_true, decide_false, beq_iff_eq, cellV, List.append_assoc, List.length_append, Bool.not_true, Bool.not_false, h, iaddrV_sl p.as h, hrd1, hb, hw, Ac.c, zAc_c]
          refine hn _ (p.as.l.length - (i + 1)) (by omega) ⟨i + 1, rfl, by omega, find_next hc hx hb, _, _, _, _, _, _, _, _, _, _, _, _, _, _, _, _, _, _, _, _, _, _, _, _, _, _, _, _, _, _, rfl⟩
        · have hxf := find_hit (p := fun f => f.id == id) hc hx hb
          rw [hf] at hxf
          obtain rfl := Option.some.inj hxf
          simp only [Wall, e_nilchk, e_pick, e_box, e_bslice, e_load, e_store, e_eqb, e_eqp, e_eqs, e_eqagg, e_conv, e_faddr, e_field, e_extract, e_call, e_mx, mkAt, List.replicate, List.cons_append, List.nil_append, List.append_nil, List.all_cons, List.all_nil, Bool.and_self, Bool.and_true, Bool.true_and, if_true, List.length_nil, List.length_cons, Nat.zero_add, Nat.add_zero, Nat.reduceAdd, Nat.reduceMul, Nat.reduceLeDiff, Nat.le_refl, and_self, and_true, true_and, List.getElem?_cons_zero, List.getElem?_cons_succ, look, mkv, Option.map_some, Option.map_none, Option.bind_some, Bool.false_eq_true, if_false, List.map_cons, List.map_nil, binI, intBin, isShift, unI, reduceCtorEq, fillI, Nat.reduceEqDiff, Int.ofNat_lt, decide_true, decide_false, beq_iff_eq, cellV, List.append_assoc, List.length_append, Bool.not_true, Bool.not_false, h, iaddrV_sl p.as h, hrd1, hrd, hb, Ac.c, zAc_c, ev_append, app_src, rep, cellsI_sl, app_ok, app_row h0 (show 0 + f0.via.l.length ≤ 1073741824 by omega)]
          refine hr _ ?_
          simp only [Wall, e_nilchk, e_pick, e_box, e_bslice, e_load, e_store, e_eqb, e_eqp, e_eqs, e_eqagg, e_conv, e_faddr, e_field, e_extract, e_call, e_mx, mkAt, List.replicate, List.cons_append, List.nil_append, List.append_nil, List.all_cons, List.all_nil, Bool.and_self, Bool.and_true, Bool.true_and, if_true, List.length_nil, List.length_cons, Nat.zero_add, Nat.add_zero, Nat.reduceAdd, Nat.reduceMul, Nat.reduceLeDiff, Nat.le_refl, and_self, and_true, true_and, List.getElem?_cons_zero, List.getElem?_cons_succ, look, mkv, Option.map_some, Option.map_none, Option.bind_some, Bool.false_eq_true, if_false, List.map_cons, List.map_nil, binI, intBin, isShift, unI, reduceCtorEq, fillI, Nat.reduceEqDiff, Int.ofNat_lt, decide_true, decide_false, beq_iff_eq, cellV, List.append_assoc, List.length_append, Bool.not_true, Bool.not_false, zAc_c]
          refine ⟨_, rfl, ?_⟩
          obtain ⟨k, rfl⟩ : ∃ k, m = k + 1 + 1 + 1 := ⟨m - 3, by omega⟩
          exact freeze_ac (freeze_slM (k := 1) ptc_fz (by omega) rfl Pt.c_len (by simp only [Wall, e_nilchk, e_pick, e_box, e_bslice, e_load, e_store, e_eqb, e_eqp, e_eqs, e_eqagg, e_conv, e_faddr, e_field, e_extract, e_call, e_mx, mkAt, List.replicate, List.cons_append, List.nil_append, List.append_nil, List.all_cons, List.all_nil, Bool.and_self, Bool.and_true, Bool.true_and, if_true, List.length_nil, List.length_cons, Nat.zero_add, Nat.add_zero, Nat.reduceAdd, Nat.reduceMul, Nat.reduceLeDiff, Nat.le_refl, and_self, and_true, true_and, List.getElem?_cons_zero, List.getElem?_cons_succ, look, mkv, Option.map_some, Option.map_none, Option.bind_some, Bool.false_eq_true, if_false, List.map_cons, List.map_nil, binI, intBin, isShift, unI, reduceCtorEq, fillI, Nat.reduceEqDiff, Int.ofNat_lt, decide_true, decide_false, beq_iff_eq, cellV, List.append_assoc, List.length_append, Bool.not_true, Bool.not_false]))
      · have hxf := find_end hc h
        rw [hf] at hxf
        simp at hxf
theorem gives_rnode (hS : NoS S) (p : Pn) (id : Int) : Gives Ftab S 49 [.agg p.c, iv id] (.tuple [.agg ((p.ns.l.find? fun f => f.id == id).getD zNd).c, .bool (p.ns.l.find? fun f => f.id == id).isSome]) := by
  cases hf : p.ns.l.find? fun f => f.id == id with
  | none =>
    refine gives_fz (i := i49) (k := 1 + 1 + 1) (hS _ _ (by decide) (by decide) (by decide) (by decide)) rfl rfl gives_node_fz0 (p.ns.l.length + 5) (by omega) fun m hm d out => ?_
    simp only [i49, Wall, e_nilchk, e_pick, e_box, e_bslice, e_load, e_store, e_eqb, e_eqp, e_eqs, e_eqagg, e_conv, e_faddr, e_field, e_extract, e_call, e_mx, mkAt, List.replicate, List.cons_append, List.nil_append, List.append_nil, List.all_cons, List.all_nil, Bool.and_self, Bool.and_true, Bool.true_and, if_true, List.length_nil, List.length_cons, Nat.zero_add, Nat.add_zero, Nat.reduceAdd, Nat.reduceMul, Nat.reduceLeDiff, Nat.le_refl, and_self, and_true, true_and, List.getElem?_cons_zero, List.getElem?_cons_succ, look, mkv, Option.map_some, Option.map_none, Option.bind_some, Bool.false_eq_true, if_false, List.map_cons, List.map_nil, binI, intBin, isShift, unI, reduceCtorEq, fillI, Nat.reduceEqDiff, Int.ofNat_lt, decide_true, decide_false, beq_iff_eq, cellV, List.append_assoc, List.length_append, Bool.not_true, Bool.not_false, Pn.c]
    refine ex_rounds (fun j st => ∃ i, j = p.ns.l.length - i ∧ i ≤ p.ns.l.length ∧ ((p.ns.l.take i).find? fun f => f.id == id) = none ∧ ∃ J a3 a7 a8 a9 a10 a11 a12 a13 a14 a15 a16 a17 a18 a19 a20 a21 a22 a23 a24 a25 a26 a27, st = ⟨[.agg p.c, iv id, .ptrM d 0 0, a3, .ptrM d 1 0, .bool false, iv i, a7, a8, a9, a10, a11, a12, a13, a14, a15, a16, a17, a18, a19, a20, a21, a22, a23, a24, a25, a26, a27], .cells [p.ns.v, p.as.v, p.fs.v] :: .cells zNd.c :: J⟩) p.ns.l.length (by omega) ⟨0, by omega, by omega, by simp, [], _, _, _, _, _, _, _, _, _, _, _, _, _, _, _, _, _, _, _, _, _, _, rfl⟩ ?_
    rintro j st K ⟨i, rfl, hi, hc, J, a3, a7, a8, a9, a10, a11, a12, a13, a14, a15, a16, a17, a18, a19, a20, a21, a22, a23, a24, a25, a26, a27, rfl⟩ hn he hr
    by_cases h : i < p.ns.l.length
    · have hx : p.ns.l[i]? = some p.ns.l[i] := List.getElem?_eq_getElem h
      generalize p.ns.l[i] = x at hx
      have hrd : rdN (p.ns.l.flatMap Nd.c) (i * 3) 3 = some x.c := (rdN_flat Nd.c_len 0 3 hx (by omega)).trans rfl
      have hrd1 : rdN (p.ns.l.flatMap Nd.c) (i * 3) 1 = some [.int .i64 x.id] := (rdN_flat Nd.c_len 0 1 hx (by omega)).trans rfl
      have hw : wrapI .i64 ((i : Int) + 1) = ((i + 1 : Nat) : Int) := wrap_succ (by have := p.ns.few; omega)
      cases hb : x.id == id
      · simp only [Wall, e_nilchk, e_pick, e_box, e_bslice, e_load, e_store, e_eqb, e_eqp, e_eqs, e_eqagg, e_conv, e_faddr, e_field, e_extract, e_call, e_mx, mkAt, List.replicate, List.cons_append, List.nil_append, List.append_nil, List.all_cons, List.all_nil, Bool.and_self, Bool.and_true, Bool.true_and, if_true, List.length_nil, List.length_cons, Nat.zero_add, Nat.add_zero, Nat.reduceAdd, Nat.reduceMul, Nat.reduceLeDiff, Nat.le_refl, and_self, and_true, true_and, List.getElem?_cons_zero, List.getElem?_cons_succ, look, mkv, Option.map_some, Option.map_none, Option.bind_some, Bool.false_eq_true, if_false, List.map_cons, List.map_nil, binI, intBin, isShift, unI, reduceCtorEq, fillI, Nat.reduceEqDiff, Int.ofNat_lt, decide_true, decide_false, beq_iff_eq, cellV, List.append_assoc, List.length_append, Bool.not_true, Bool.not_false, h, iaddrV_sl p.ns h, hrd1, hb, hw, Nd.c, zNd_c]
        refine hn _ (p.ns.l.length - (i + 1)) (by omega) ⟨i + 1, rfl, by omega, find_next hc hx hb, _, _, _, _, _, _, _, _, _, _, _, _, _, _, _, _, _, _, _, _, _, _, _, rfl⟩
      · have hxf := find_hit (p := fun f => f.id == id) hc hx hb
        rw [hf] at hxf
        simp at hxf
    · have hxf := find_end hc h
      rw [hf] at hxf
      simp only [Wall, e_nilchk, e_pick, e_box, e_bslice, e_load, e_store, e_eqb, e_eqp, e_eqs, e_eqagg, e_conv, e_faddr, e_field, e_extract, e_call, e_mx, mkAt, List.replicate, List.cons_append, List.nil_append, List.append_nil, List.all_cons, List.all_nil, Bool.and_self, Bool.and_true, Bool.true_and, if_true, List.length_nil, List.length_cons, Nat.zero_add, Nat.add_zero, Nat.reduceAdd, Nat.reduceMul, Nat.reduceLeDiff, Nat.le_refl, and_self, and_true, true_and, List.getElem?_cons_zero, List.getElem?_cons_succ, look, mkv, Option.map_some, Option.map_none, Option.bind_some, Bool.false_eq_true, if_false, List.map_cons, List.map_nil, binI, intBin, isShift, unI, reduceCtorEq, fillI, Nat.reduceEqDiff, Int.ofNat_lt, decide_true, decide_false, beq_iff_eq, cellV, List.append_assoc, List.length_append, Bool.not_true, Bool.not_false, h, zNd_c]
      refine he _ _ ?_
      simp only [Wall, e_nilchk, e_pick, e_box, e_bslice, e_load, e_store, e_eqb, e_eqp, e_eqs, e_eqagg, e_conv, e_faddr, e_field, e_extract, e_call, e_mx, mkAt, List.replicate, List.cons_append, List.nil_append, List.append_nil, List.all_cons, List.all_nil, Bool.and_self, Bool.and_true, Bool.true_and, if_true, List.length_nil, List.length_cons, Nat.zero_add, Nat.add_zero, Nat.reduceAdd, Nat.reduceMul, Nat.reduceLeDiff, Nat.le_refl, and_self, and_true, true_and, List.getElem?_cons_zero, List.getElem?_cons_succ, look, mkv, Option.map_some, Option.map_none, Option.bind_some, Bool.false_eq_true, if_false, List.map_cons, List.map_nil, binI, intBin, isShift, unI, reduceCtorEq, fillI, Nat.reduceEqDiff, Int.ofNat_lt, decide_true, decide_false, beq_iff_eq, cellV, List.append_assoc, List.length_append, Bool.not_true, Bool.not_false, zNd_c]
      rfl
  | some f0 =>
    refine gives_fz (i := i49) (k := 1 + 1 + 1) (hS _ _ (by decide) (by decide) (by decide) (by decide)) rfl rfl (gives_node_fz1 f0) (p.ns.l.length + 8) (by omega) fun m hm d out => ?_
    simp only [i49, Wall, e_nilchk, e_pick, e_box, e_bslice, e_load, e_store, e_eqb, e_eqp, e_eqs, e_eqagg, e_conv, e_faddr, e_field, e_extract, e_call, e_mx, mkAt, List.replicate, List.cons_append, List.nil_append, List.append_nil, List.all_cons, List.all_nil, Bool.and_self, Bool.and_true, Bool.true_and, if_true, List.length_nil, List.length_cons, Nat.zero_add, Nat.add_zero, Nat.reduceAdd, Nat.reduceMul, Nat.reduceLeDiff, Nat.le_refl, and_self, and_true, true_and, List.getElem?_cons_zero, List.getElem?_cons_succ, look, mkv, Option.map_some, Option.map_none, Option.bind_some, Bool.false_eq_true, if_false, List.map_cons, List.map_nil, binI, intBin, isShift, unI, reduceCtorEq, fillI, Nat.reduceEqDiff, Int.ofNat_lt, decide_true, decide_false, beq_iff_eq, cellV, List.append_assoc, List.length_append, Bool.not_true, Bool.not_false, Pn.c]
    refine ex_rounds (fun j st => ∃ i, j = p.ns.l.length - i ∧ i ≤ p.ns.l.length ∧ ((p.ns.l.take i).find? fun f => f.id == id) = none ∧ ∃ J a3 a7 a8 a9 a10 a11 a12 a13 a14 a15 a16 a17 a18 a19 a20 a21 a22 a23 a24 a25 a26 a27, st = ⟨[.agg p.c, iv id, .ptrM d 0 0, a3, .ptrM d 1 0, .bool false, iv i, a7, a8, a9, a10, a11, a12, a13, a14, a15, a16, a17, a18, a19, a20, a21, a22, a23, a24, a25, a26, a27], .cells [p.ns.v, p.as.v, p.fs.v] :: .cells zNd.c :: J⟩) p.ns.l.length (by omega) ⟨0, by omega, by omega, by simp, [], _, _, _, _, _, _, _, _, _, _, _, _, _, _, _, _, _, _, _, _, _, _, rfl⟩ ?_
    rintro j st K ⟨i, rfl, hi, hc, J, a3, a7, a8, a9, a10, a11, a12, a13, a14, a15, a16, a17, a18, a19, a20, a21, a22, a23, a24, a25, a26, a27, rfl⟩ hn he hr
    by_cases h : i < p.ns.l.length
    · have hx : p.ns.l[i]? = some p.ns.l[i] := List.getElem?_eq_getElem h
      generalize p.ns.l[i] = x at hx
      have hrd : rdN (p.ns.l.flatMap Nd.c) (i * 3) 3 = some x.c := (rdN_flat Nd.c_len 0 3 hx (by omega)).trans rfl
      have hrd1 : rdN (p.ns.l.flatMap Nd.c) (i * 3) 1 = some [.int .i64 x.id] := (rdN_flat Nd.c_len 0 1 hx (by omega)).trans rfl
      have hw : wrapI .i64 ((i : Int) + 1) = ((i + 1 : Nat) : Int) := wrap_succ (by have := p.ns.few; omega)
      cases hb : x.id == id
      · simp only [Wall, e_nilchk, e_pick, e_box, e_bslice, e_load, e_store, e_eqb, e_eqp, e_eqs, e_eqagg, e_conv, e_faddr, e_field, e_extract, e_call, e_mx, mkAt, List.replicate, List.cons_append, List.nil_append, List.append_nil, List.all_cons, List.all_nil, Bool.and_self, Bool.and_true, Bool.true_and, if_true, List.length_nil, List.length_cons, Nat.zero_add, Nat.add_zero, Nat.reduceAdd, Nat.reduceMul, Nat.reduceLeDiff, Nat.le_refl, and_self, and_true, true_and, List.getElem?_cons_zero, List.getElem?_cons_succ, look, mkv, Option.map_some, Option.map_none, Option.bind_some, Bool.false_eq_true, if_false, List.map_cons, List.map_nil, binI, intBin, isShift, unI, reduceCtorEq, fillI, Nat.reduceEqDiff, Int.ofNat_lt, decide_true, decide_false, beq_iff_eq, cellV, List.append_assoc, List.length_append, Bool.not_true, Bool.not_false, h, iaddrV_sl p.ns h, hrd1, hb, hw, Nd.c, zNd_c]
        refine hn _ (p.ns.l.length - (i + 1)) (by omega) ⟨i + 1, rfl, by omega, find_next hc hx hb, _, _, _, _, _, _, _, _, _, _, _, _, _, _, _, _, _, _, _, _, _, _, _, rfl⟩
      · have hxf := find_hit (p := fun f => f.id == id) hc hx hb
        rw [hf] at hxf
        obtain rfl := Option.some.inj hxf
        simp only [Wall, e_nilchk, e_pick, e_box, e_bslice, e_load, e_store, e_eqb, e_eqp, e_eqs, e_eqagg, e_conv, e_faddr, e_field, e_extract, e_call, e_mx, mkAt, List.replicate, List.cons_append, List.nil_append, List.append_nil, List.all_cons, List.all_nil, Bool.and_self, Bool.and_true, Bool.true_and, if_true, List.length_nil, List.length_cons, Nat.zero_add, Nat.add_zero, Nat.reduceAdd, Nat.reduceMul, Nat.reduceLeDiff, Nat.le_refl, and_self, and_true, true_and, List.getElem?_cons_zero, List.getElem?_cons_succ, look, mkv, Option.map_some, Option.map_none, Option.bind_some, Bool.false_eq_true, if_false, List.map_cons, List.map_nil, binI, intBin, isShift, unI, reduceCtorEq, fillI, Nat.reduceEqDiff, Int.ofNat_lt, decide_true, decide_false, beq_iff_eq, cellV, List.append_assoc, List.length_append, Bool.not_true, Bool.not_false, h, iaddrV_sl p.ns h, hrd, hrd1, hb, Nd.c, zNd_c]
        refine hr _ ?_
        simp only [Wall, e_nilchk, e_pick, e_box, e_bslice, e_load, e_store, e_eqb, e_eqp, e_eqs, e_eqagg, e_conv, e_faddr, e_field, e_extract, e_call, e_mx, mkAt, List.replicate, List.cons_append, List.nil_append, List.append_nil, List.all_cons, List.all_nil, Bool.and_self, Bool.and_true, Bool.true_and, if_true, List.length_nil, List.length_cons, Nat.zero_add, Nat.add_zero, Nat.reduceAdd, Nat.reduceMul, Nat.reduceLeDiff, Nat.le_refl, and_self, and_true, true_and, List.getElem?_cons_zero, List.getElem?_cons_succ, look, mkv, Option.map_some, Option.map_none, Option.bind_some, Bool.false_eq_true, if_false, List.map_cons, List.map_nil, binI, intBin, isShift, unI, reduceCtorEq, fillI, Nat.reduceEqDiff, Int.ofNat_lt, decide_true, decide_false, beq_iff_eq, cellV, List.append_assoc, List.length_append, Bool.not_true, Bool.not_false, zNd_c]
        rfl
    · have hxf := find_end hc h
      rw [hf] at hxf
      simp at hxf
end
end Go.Proofs.YtbfljfjjnijigaaGreatDoor
end
section
namespace Go.Proofs.YtbfljfjjnijigaaGreatDoor
open Go Go.RowKit
set_option maxRecDepth 100000
section
variable {C : Call} {d : Nat} {out : Nat → List IObj} {n j : Nat} {st : St} {K : Out → St → Prop} {a : IC}
def Lp (C : Call) (d : Nat) (out : Nat → List IObj) (n j : Nat) (a : IC) (K : Out → St → Prop) (st : St) : Prop := ∃ o st', iter (exec C d out n a) j st = some (o, st') ∧ K o st'
theorem Ex_loop : Ex C d out n (.loop a) K st = Lp C d out n n a K st := by
  unfold Ex Lp
  simp only [exec]
theorem Lp_succ : Lp C d out n (j + 1) a K st = Ex C d out n a (andThen (Lp C d out n j a K) K) st := by
  refine propext ⟨fun ⟨o, st', h, hk⟩ => ?_, fun ⟨o, st1, h1, h2⟩ => ?_⟩
  · simp only [iter] at h
    split at h
    · rename_i st1 he
      exact ⟨.normal, st1, he, o, st', h, hk⟩
    · rename_i hne
      refine ⟨o, st', h, ?_⟩
      cases o with
      | normal => exact absurd h (hne _)
      | exit id => exact hk
      | ret => exact hk
  · cases o with
    | normal =>
      obtain ⟨o2, st2, h3, h4⟩ := h2
      exact ⟨o2, st2, by simp only [iter, h1, h3], h4⟩
    | exit id => exact ⟨_, st1, by simp only [iter, h1], h2⟩
    | ret => exact ⟨_, st1, by simp only [iter, h1], h2⟩
end
section
variable {F : FuncId → Option IFn} {S : FuncId → List IV → Option IV}
def FinO (d : Nat) (out : Nat → List IObj) (rs : List IRes) (c : List IV) (len cap sz : Nat) (tight : Bool) (o : Out) (st : St) : Prop := (o = .normal ∨ o = .ret) ∧ ∃ j, resultI d out st rs = some (.slM d j 0 len cap sz tight) ∧ st.own[j]? = some (.cells c)
theorem own_of {f : FuncId} {i : IFn} {args : List IV} {c : List IV} {len cap sz k : Nat} {tight : Bool} (hS : S f args = none) (hi : F f = some i) (hm : i.mode = 1) (N : Nat) (hfz : ∀ x ∈ c, Fz k x) (hk : k ≤ N) (hc : c.length = cap * sz)
    (h : ∀ m, N ≤ m → ∀ d out, Ex (callN F S m) d out m i.body (FinO d out i.res c len cap sz tight) ⟨args ++ List.replicate (i.ntmps - args.length) (.tuple []), []⟩) :
    ∃ N', ∀ m, N' ≤ m → ∀ d out ownV own id, own[id]? = some .free → callN F S m d out ownV own id f args = some (.a, .slM d id 0 len cap sz tight, own.set id (.cells c)) := by
  refine ⟨N + 1, fun m hN d out ownV own id hf => ?_⟩
  obtain ⟨m, rfl⟩ : ∃ q, m = q + 1 := ⟨m - 1, by omega⟩
  obtain ⟨o, st, h1, h2, j, h3, h4⟩ := h m (by omega) (d + 1) (fun l => if l = d then ownV else out l)
  have hm2 : ¬ i.mode = 2 := by omega
  have hseg : seg c 0 (cap * sz) = some c := by
    unfold seg
    rw [if_pos (by omega), lit_eq, List.drop_zero, List.take_of_length_le (by omega)]
  have hmap : c.mapM (freeze m (d + 1) (st.own.set j .gone)) = some c := mapM_same fun x hx => hfz x hx m (by omega) _ _
  simp only [callN, hS, hi, if_neg hm2, lit_eq, h1]
  rcases h2 with rfl | rfl <;> simp only [ended, h3, Option.bind_some, leave, hm, if_true, handed, h4, hseg, hmap, mkAt, hf, lit_eq]
variable {d : Nat} {out : Nat → List IObj} {rs : List IRes} {c : List IV} {len cap sz : Nat} {tight : Bool} {st : St}
theorem FinO_ret : FinO d out rs c len cap sz tight .ret st = ∃ j, resultI d out st rs = some (.slM d j 0 len cap sz tight) ∧ st.own[j]? = some (.cells c) := propext ⟨fun h => h.2, fun h => ⟨.inr rfl, h⟩⟩
end
theorem rep_fz {z : List IV} {k : Nat} (h : ∀ x ∈ z, Fz k x) : ∀ {n : Nat}, ∀ x ∈ rep z n, Fz k x
  | 0, x, hx => by simp [rep] at hx
  | n + 1, x, hx => by
    simp only [rep, List.mem_append] at hx
    exact hx.elim (h x) (rep_fz h x)
section
variable {C : Call} {d n0 : Nat} {out : Nat → List IObj} {lk : Nat → Nat → Option IObj} {own ownV : List IObj} {t : List IV}
theorem natI_0 {k : IntKind} : natI (.int k 0) = some 0 := Eq.trans rfl rfl
theorem app_src0 {z : List IV} {sz : Nat} {s x : Opd} {slot : Nat} : e_append d out n0 ownV own t z sz true s x slot = appV d n0 (look d out ownV) own sz (ρ t s) slot ((natI (ρ t x)).bind fun n => if n ≤ bound then some (rep z n, n) else none) := Eq.trans rfl rfl
theorem app_nil {sz slot n : Nat} {new : List IV} (h : n ≠ 0) (hb : n ≤ bound) : appendI d n0 lk own sz .nilsl new n slot = mkAt own (n0 + slot) (.cells new) (.slM d (n0 + slot) 0 n n sz false) := by
  unfold appendI
  rw [if_neg h]
  simp only
  rw [if_pos hb]
end
theorem wrap_lit0 : wrapI .i64 (0 - 0) = 0 := by rw [wrapI_eq]; decide
theorem wrap_sub0 {n : Nat} (h : n ≤ 1073741824) : wrapI .i64 ((n : Int) - 0) = (n : Int) := by
  rw [wrapI_eq, IntWalk.i64_in _ (by omega)]
  omega
section
variable {S : FuncId → List IV → Option IV}
theorem grow_at (hS : NoS S) (n : Nat) (h0 : 0 < n) (hn : n ≤ 1073741824) : ∃ N, ∀ m, N ≤ m → ∀ d out ownV own id, own[id]? = some .free → callN Ftab S m d out ownV own id 71 [.nilsl, iv n] = some (.a, .slM d id 0 0 n 2 false, own.set id (.cells (rep [.int .i64 0, .int .i64 0] n))) := by
  refine own_of (i := i71) (hS _ _ (by decide) (by decide) (by decide) (by decide)) rfl rfl 2 (k := 1) (rep_fz fun x hx => ?_) (by omega) ?_ fun m hm d out => ?_
  · simp only [List.mem_cons, List.not_mem_nil, or_false] at hx
    rcases hx with rfl | rfl <;> exact fz_int
  · rw [rep_len]
    rfl
  · have d1 : decide ((n : Int) < 0) = false := by simp
    have d2 : decide ((n : Int) > 0) = true := by simp; omega
    have hb : n ≤ bound := by unfold bound; omega
    have hb2 : 0 + n ≤ bound := by unfold bound; omega
    have hne : n ≠ 0 := by omega
    simp only [i71, Wall, e_nilchk, e_pick, e_box, e_bslice, e_load, e_store, e_eqb, e_eqp, e_eqs, e_eqagg, e_conv, e_faddr, e_field, e_extract, e_call, e_mx, mkAt, List.replicate, List.cons_append, List.nil_append, List.append_nil, List.all_cons, List.all_nil, Bool.and_self, Bool.and_true, Bool.true_and, if_true, List.length_nil, List.length_cons, Nat.zero_add, Nat.add_zero, Nat.reduceAdd, Nat.reduceMul, Nat.reduceLeDiff, Nat.le_refl, and_self, and_true, true_and, List.getElem?_cons_zero, List.getElem?_cons_succ, look, mkv, Option.map_some, Option.map_none, Option.bind_some, Bool.false_eq_true, if_false, List.map_cons, List.map_nil, binI, intBin, isShift, unI, reduceCtorEq, fillI, Nat.reduceEqDiff, Int.ofNat_lt, decide_true, decide_false, beq_iff_eq, cellV, List.append_assoc, List.length_append, Bool.not_true, Bool.not_false, d1, ev_cap, e_cap, wrap_lit0, wrap_sub0 hn, d2, ev_slice, sliceI, optI, natI_0, natI_nat, ev_append, app_src0, if_pos hb, app_ok, app_nil hne hb, Nat.zero_le, Nat.zero_mul, Nat.sub_zero, Nat.sub_self, Option.isSome_none, Bool.or_self, FinO_ret]
    exact ⟨0, rfl, rfl⟩
end
end Go.Proofs.YtbfljfjjnijigaaGreatDoor
end
section
namespace Go.Proofs.YtbfljfjjnijigaaGreatDoor
open Go Go.RowKit
set_option maxRecDepth 100000
theorem wr_fill : ∀ {B A R : List IV}, B.length ≤ R.length → wrN (A ++ R) A.length B = A ++ B ++ R.drop B.length
  | [], A, R, _ => by simp [wrN]
  | b :: B, A, R, h => by
    cases R with
    | nil => simp at h
    | cons r R =>
      simp only [wrN]
      rw [set_end]
      have h2 := wr_fill (B := B) (A := A ++ [b]) (R := R) (by simpa using h)
      rw [List.length_append, List.append_assoc] at h2
      simp only [List.cons_append, List.nil_append, List.length_cons, List.length_nil, Nat.zero_add] at h2
      rw [h2]
      simp
theorem wr_fill' {B A R : List IV} {k : Nat} (hk : k = A.length) (h : B.length ≤ R.length) : wrN (A ++ R) k B = A ++ B ++ R.drop B.length := by rw [hk, wr_fill h]
theorem app_in0 {d n0 sz len cap n slot : Nat} {out : Nat → List IObj} {c new : List IV} {J : List IObj} {tight : Bool} (h : n ≠ 0) (hb : len + n ≤ 1073741824) (hc : len + n ≤ cap) (hfit : 0 + (len + n) * sz ≤ c.length) (hs : new.all IV.scalar = true) :
    appendI d n0 (look d out (.cells c :: J)) (.cells c :: J) sz (.slM d 0 0 len cap sz tight) new n slot = some (.x, .slM d 0 0 (len + n) cap sz tight, .cells (wrN c (0 + len * sz) new) :: J) := by
  unfold appendI
  rw [if_neg h]
  simp only
  rw [if_pos ⟨by unfold bound; omega, trivial⟩]
  simp only [look, if_true, List.getElem?_cons_zero]
  rw [if_pos hc, if_pos ⟨trivial, hfit, hs⟩]
  simp only [lit_eq, List.set_cons_zero]
theorem app_same {d n0 sz slot l i off len cap z : Nat} {lk : Nat → Nat → Option IObj} {own : List IObj} {new : List IV} {tight : Bool} : appendI d n0 lk own sz (.slM l i off len cap z tight) new 0 slot = some (.r, .slM l i off len cap z tight, own) := by
  unfold appendI
  rw [if_pos rfl]
theorem app_same0 {d n0 sz slot l i off len cap z n : Nat} (h : n = 0) {lk : Nat → Nat → Option IObj} {own : List IObj} {new : List IV} {tight : Bool} : appendI d n0 lk own sz (.slM l i off len cap z tight) new n slot = some (.r, .slM l i off len cap z tight, own) := by
  subst h
  exact app_same
theorem pts_scal {l : List Pt} : (l.flatMap Pt.c).all IV.scalar = true := by
  rw [List.all_eq_true]
  intro x hx
  obtain ⟨a, _, h⟩ := List.mem_flatMap.1 hx
  simp only [Pt.c, List.mem_cons, List.not_mem_nil, or_false] at h
  rcases h with rfl | rfl <;> rfl
theorem cellsI_pt {lk : Nat → Nat → Option IObj} {x y : Int} {tight : Bool} : cellsI lk 2 (.slC [.int .i64 x, .int .i64 y] 1 2 tight) = some ([.int .i64 x, .int .i64 y], 1) := by
  simp [cellsI, seg, lit_eq]
theorem iaddr0 {own : List IObj} {z n sz : Nat} {cs : List IV} {tight : Bool} {k : IntKind} (h : 0 < n) : iaddrV own z (.slC cs n sz tight) (.int k 0) = some (.p, .ptrC cs (0 * z), own) := iaddrV_slC (i := 0) h
theorem iaddr1 {own : List IObj} {z n sz : Nat} {cs : List IV} {tight : Bool} {k : IntKind} (h : 1 < n) : iaddrV own z (.slC cs n sz tight) (.int k 1) = some (.p, .ptrC cs (1 * z), own) := iaddrV_slC (i := 1) h
theorem iaddr2 {own : List IObj} {z n sz : Nat} {cs : List IV} {tight : Bool} {k : IntKind} (h : 2 < n) : iaddrV own z (.slC cs n sz tight) (.int k 2) = some (.p, .ptrC cs (2 * z), own) := iaddrV_slC (i := 2) h
theorem wrap_0_1 : wrapI .i64 (0 + 1) = 1 := by rw [wrapI_eq]; decide
theorem wrap_1_1 : wrapI .i64 (1 + 1) = 2 := by rw [wrapI_eq]; decide
theorem wrap_2_1 : wrapI .i64 (2 + 1) = 3 := by rw [wrapI_eq]; decide
theorem lt03 : decide ((0 : Int) < ((3 : Nat) : Int)) = true := by decide
theorem lt13 : decide ((1 : Int) < ((3 : Nat) : Int)) = true := by decide
theorem lt23 : decide ((2 : Int) < ((3 : Nat) : Int)) = true := by decide
theorem lt33 : decide ((3 : Int) < ((3 : Nat) : Int)) = false := by decide
theorem wrap_add {a b : Nat} (h : a + b < 9223372036854775808) : wrapI .i64 ((a : Int) + (b : Int)) = ((a + b : Nat) : Int) := by
  rw [wrapI_eq, IntWalk.i64_in _ (by omega)]
  rfl
theorem wrap_z1 : wrapI .i64 (0 + ((1 : Nat) : Int)) = ((1 : Nat) : Int) := by rw [wrapI_eq]; decide
theorem nlt {a : Nat} : decide ((a : Int) < 0) = false := by simp
def mkRow {α : Type} {g : α → List IV} {sz : Nat} (hs : ∀ a, (g a).length = sz) (l : List α) (n : Nat) (tight : Bool) (h : l.length = n) (hf : n < 9223372036854775808) : SlOf sz g :=
  ⟨l, .slC (l.flatMap g) n sz tight, by subst h; exact .row _ _ _ (flat_len hs), by omega⟩
theorem filled {A B D R : List IV} {n : Nat} (hA : A.length = 2) (hD : D.length = 2) (hB : B.length = n * 2) (hR : R.length = (1 + n + 1) * 2) : wrN (wrN (wrN R 0 A) 2 B) ((1 + n) * 2) D = A ++ (B ++ D) := by
  have h1 : wrN R 0 A = A ++ R.drop 2 := by
    have := wr_fill' (B := A) (A := []) (R := R) (k := 0) rfl (by omega)
    simpa [hA] using this
  rw [h1, wr_fill' (k := 2) hA.symm (by rw [List.length_drop]; omega), wr_fill' (k := (1 + n) * 2) (by rw [List.length_append, hA, hB]; omega) (by simp only [List.length_drop]; omega), List.append_assoc, List.append_assoc]
  rw [List.drop_eq_nil_of_le (by simp only [List.length_drop]; omega), List.append_nil]
theorem filled0 {A D R : List IV} (hA : A.length = 2) (hD : D.length = 2) (hR : R.length = 4) : wrN (wrN R 0 A) 2 D = A ++ D := by
  have h1 : wrN R 0 A = A ++ R.drop 2 := by
    have := wr_fill' (B := A) (A := []) (R := R) (k := 0) rfl (by omega)
    simpa [hA] using this
  rw [h1, wr_fill' (k := 2) hA.symm (by rw [List.length_drop]; omega), List.drop_eq_nil_of_le (by simp only [List.length_drop]; omega), List.append_nil]
section
variable {S : FuncId → List IV → Option IV}
theorem gives_concat (hS : NoS S) (p1 p2 : Pt) (q : SlOf 2 Pt.c) (hq : q.l.length ≤ 1000000) : ∃ q' : SlOf 2 Pt.c, q'.l = p1 :: (q.l ++ [p2]) ∧ Gives Ftab S 47 [.slC [.slC [iv p1.x, iv p1.y] 1 2 true, q.v, .slC [iv p2.x, iv p2.y] 1 2 true] 3 1 true] q'.v := by
  obtain ⟨N, hN⟩ := grow_at hS (1 + q.l.length + 1) (by omega) (by omega)
  have hlen : (p1 :: (q.l ++ [p2])).length = 1 + q.l.length + 1 := by simp; omega
  refine ⟨mkRow Pt.c_len (p1 :: (q.l ++ [p2])) (1 + q.l.length + 1) false hlen (by omega), rfl, ?_⟩
  refine gives_fr (i := i47) (hS _ _ (by decide) (by decide) (by decide) (by decide)) rfl rfl (N + 5) fun m hm d out => ?_
  have hg := hN m (by omega) d out [.free] [.free] 0 rfl
  have hfr : ∀ own : List IObj, own[0]? = some (.cells ((p1 :: (q.l ++ [p2])).flatMap Pt.c)) → freeze m d own (.slM d 0 0 (1 + q.l.length + 1) (1 + q.l.length + 1) 2 false) = some (mkRow Pt.c_len (p1 :: (q.l ++ [p2])) (1 + q.l.length + 1) false hlen (by omega)).v := fun own ho => freeze_slM (k := 1) ptc_fz (by omega) hlen Pt.c_len ho
  have w1 : wrapI .i64 (((1 : Nat) : Int) + (q.l.length : Int)) = ((1 + q.l.length : Nat) : Int) := wrap_add (by omega)
  have w2 : wrapI .i64 (((1 + q.l.length : Nat) : Int) + ((1 : Nat) : Int)) = ((1 + q.l.length + 1 : Nat) : Int) := wrap_add (by omega)
  obtain ⟨k, rfl⟩ : ∃ k, m = k + 1 + 1 + 1 + 1 := ⟨m - 4, by omega⟩
  simp only [iv_eq] at hg
  have hr0 : (rep [.int .i64 0, .int .i64 0] (1 + q.l.length + 1)).length = (1 + q.l.length + 1) * 2 := by rw [rep_len]; rfl
  generalize rep [.int .i64 0, .int .i64 0] (1 + q.l.length + 1) = R at hg hr0
  by_cases h0 : q.l.length = 0
  · have hl : q.l = [] := List.length_eq_zero_iff.1 h0
    have a1 := fun n0 slot => app_in0 (d := d) (n0 := n0) (sz := 2) (len := 0) (cap := 1 + q.l.length + 1) (n := 1) (slot := slot) (out := out) (c := R) (new := [.int .i64 p1.x, .int .i64 p1.y]) (J := [.free]) (tight := false) (by omega) (by omega) (by omega) (by omega) rfl
    have a3 := fun n0 slot => app_in0 (d := d) (n0 := n0) (sz := 2) (len := 1) (cap := 1 + q.l.length + 1) (n := 1) (slot := slot) (out := out) (c := wrN R 0 [.int .i64 p1.x, .int .i64 p1.y]) (new := [.int .i64 p2.x, .int .i64 p2.y]) (J := [.free, .free, .free]) (tight := false) (by omega) (by omega) (by omega) (by rw [wrN_len]; omega) rfl
    simp only [Nat.zero_add, Nat.add_zero, Nat.zero_mul, Nat.one_mul] at a1 a3
    simp only [i47, Wall, e_nilchk, e_pick, e_box, e_bslice, e_load, e_store, e_eqb, e_eqp, e_eqs, e_eqagg, e_conv, e_faddr, e_field, e_extract, e_call, e_mx, mkAt, List.replicate, List.cons_append, List.nil_append, List.append_nil, List.all_cons, List.all_nil, Bool.and_self, Bool.and_true, Bool.true_and, if_true, List.length_nil, List.length_cons, Nat.zero_add, Nat.add_zero, Nat.reduceAdd, Nat.reduceMul, Nat.reduceLeDiff, Nat.le_refl, and_self, and_true, true_and, List.getElem?_cons_zero, List.getElem?_cons_succ, look, mkv, Option.map_some, Option.map_none, Option.bind_some, Bool.false_eq_true, if_false, List.map_cons, List.map_nil, binI, intBin, isShift, unI, reduceCtorEq, fillI, Nat.reduceEqDiff, Int.ofNat_lt, decide_true, decide_false, beq_iff_eq, cellV, List.append_assoc, List.length_append, Bool.not_true, Bool.not_false, Ex_loop, Lp_succ, lt03, lt13, lt23, lt33, iaddr0 (show 0 < 3 by omega), iaddr1 (show 1 < 3 by omega), iaddr2 (show 2 < 3 by omega), wrap_0_1, wrap_1_1, wrap_2_1, wrap_z1, w1, w2, nlt, hg, ev_append, app_src, app_ok, cellsI_sl, cellsI_pt, a1, app_same0 h0, a3, Nat.zero_mul, Nat.one_mul]
    refine ⟨_, rfl, ?_⟩
    have e : (2 : Nat) = 1 + q.l.length + 1 := by omega
    have h2 := hfr [IObj.cells (wrN (wrN R 0 [.int .i64 p1.x, .int .i64 p1.y]) 2 [.int .i64 p2.x, .int .i64 p2.y]), IObj.free, IObj.free, IObj.free] (by
      rw [List.getElem?_cons_zero, filled0 rfl rfl (by rw [hr0, h0]), hl]
      simp [Pt.c, iv_eq])
    rw [show (IV.slM d 0 0 (1 + q.l.length + 1) (1 + q.l.length + 1) 2 false) = .slM d 0 0 2 (1 + q.l.length + 1) 2 false by rw [← e]] at h2
    exact h2
  · have a1 := fun n0 slot => app_in0 (d := d) (n0 := n0) (sz := 2) (len := 0) (cap := 1 + q.l.length + 1) (n := 1) (slot := slot) (out := out) (c := R) (new := [.int .i64 p1.x, .int .i64 p1.y]) (J := [.free]) (tight := false) (by omega) (by omega) (by omega) (by omega) rfl
    have a2 := fun n0 slot => app_in0 (d := d) (n0 := n0) (sz := 2) (len := 1) (cap := 1 + q.l.length + 1) (n := q.l.length) (slot := slot) (out := out) (c := wrN R 0 [.int .i64 p1.x, .int .i64 p1.y]) (new := q.l.flatMap Pt.c) (J := [.free, .free]) (tight := false) h0 (by omega) (by omega) (by rw [wrN_len]; omega) pts_scal
    have a3 := fun n0 slot => app_in0 (d := d) (n0 := n0) (sz := 2) (len := 1 + q.l.length) (cap := 1 + q.l.length + 1) (n := 1) (slot := slot) (out := out) (c := wrN (wrN R 0 [.int .i64 p1.x, .int .i64 p1.y]) 2 (q.l.flatMap Pt.c)) (new := [.int .i64 p2.x, .int .i64 p2.y]) (J := [.free, .free, .free]) (tight := false) (by omega) (by omega) (by omega) (by rw [wrN_len, wrN_len]; omega) rfl
    simp only [Nat.zero_add, Nat.add_zero, Nat.zero_mul, Nat.one_mul] at a1 a2 a3
    simp only [i47, Wall, e_nilchk, e_pick, e_box, e_bslice, e_load, e_store, e_eqb, e_eqp, e_eqs, e_eqagg, e_conv, e_faddr, e_field, e_extract, e_call, e_mx, mkAt, List.replicate, List.cons_append, List.nil_append, List.append_nil, List.all_cons, List.all_nil, Bool.and_self, Bool.and_true, Bool.true_and, if_true, List.length_nil, List.length_cons, Nat.zero_add, Nat.add_zero, Nat.reduceAdd, Nat.reduceMul, Nat.reduceLeDiff, Nat.le_refl, and_self, and_true, true_and, List.getElem?_cons_zero, List.getElem?_cons_succ, look, mkv, Option.map_some, Option.map_none, Option.bind_some, Bool.false_eq_true, if_false, List.map_cons, List.map_nil, binI, intBin, isShift, unI, reduceCtorEq, fillI, Nat.reduceEqDiff, Int.ofNat_lt, decide_true, decide_false, beq_iff_eq, cellV, List.append_assoc, List.length_append, Bool.not_true, Bool.not_false, Ex_loop, Lp_succ, lt03, lt13, lt23, lt33, iaddr0 (show 0 < 3 by omega), iaddr1 (show 1 < 3 by omega), iaddr2 (show 2 < 3 by omega), wrap_0_1, wrap_1_1, wrap_2_1, wrap_z1, w1, w2, nlt, hg, ev_append, app_src, app_ok, cellsI_sl, cellsI_pt, a1, a2, a3, Nat.zero_mul, Nat.one_mul]
    refine ⟨_, rfl, hfr _ ?_⟩
    rw [List.getElem?_cons_zero, filled (n := q.l.length) rfl rfl (flat_len Pt.c_len) hr0]
    simp [Pt.c, iv_eq]
end
end Go.Proofs.YtbfljfjjnijigaaGreatDoor
end
section
namespace Go.Proofs.YtbfljfjjnijigaaGreatDoor
open Go Go.RowKit
set_option maxRecDepth 100000
def arcF (p : Pn) (id : Int) : Option Ac := p.as.l.find? fun f => f.id == id
def nodeF (p : Pn) (id : Int) : Option Nd := p.ns.l.find? fun f => f.id == id
def arcD (p : Pn) (id : Int) : Ac := (arcF p id).getD zAc
def nodeD (p : Pn) (id : Int) : Nd := (nodeF p id).getD zNd
def pathOk (p : Pn) (id : Int) : Bool := (arcF p id).isSome && ((nodeF p (arcD p id).fr).isSome && (nodeF p (arcD p id).to).isSome)
def pathL (p : Pn) (id : Int) : List Pt := (nodeD p (arcD p id).fr).at' :: ((arcD p id).via.l ++ [(nodeD p (arcD p id).to).at'])
def FewVia (p : Pn) : Prop := ∀ f ∈ p.as.l, f.via.l.length ≤ 100000
theorem fewD {p : Pn} (h : FewVia p) (id : Int) : (arcD p id).via.l.length ≤ 100000 := by
  unfold arcD
  cases hf : arcF p id with
  | none => simp [zAc, nilS]
  | some a => exact h a (List.mem_of_find?_eq_some hf)
theorem pathR_fz (q : SlOf 2 Pt.c) (e : Int) : Fz (1 + 1 + 1 + 1) (.tuple [q.v, .int .i64 e]) := by
  refine fz_tuple fun x hx => ?_
  simp only [List.mem_cons, List.not_mem_nil, or_false] at hx
  rcases hx with rfl | rfl
  · exact slOf_fz ptc_fz q
  · exact fz_int.le (by omega)
section
variable {S : FuncId → List IV → Option IV}
theorem gives_path (hS : NoS S) (p : Pn) (id : Int) (hv : FewVia p) : ∃ q' : SlOf 2 Pt.c, (pathOk p id = true → q'.l = pathL p id) ∧ Gives Ftab S 23 [.agg p.c, iv id] (.tuple [q'.v, iv (bif pathOk p id then 0 else 7)]) := by
  obtain ⟨q1, hq1, N1, h1⟩ := gives_arc hS p id (fun f hf => by have := hv f hf; omega)
  have hq1' : q1.l = (arcD p id).via.l := hq1
  have hlen : q1.l.length ≤ 100000 := by rw [hq1']; exact fewD hv id
  obtain ⟨N2, h2⟩ := gives_node hS p (arcD p id).fr
  obtain ⟨N3, h3⟩ := gives_node hS p (arcD p id).to
  obtain ⟨q', hq', N4, h4⟩ := gives_concat hS (nodeD p (arcD p id).fr).at' (nodeD p (arcD p id).to).at' q1 (by omega)
  have c1 := fun m (hm : N1 + N2 + N3 + N4 + 5 ≤ m) d out ownV own i => h1 m (by omega) d out ownV own i
  have c2 := fun m (hm : N1 + N2 + N3 + N4 + 5 ≤ m) d out ownV own i => h2 m (by omega) d out ownV own i
  have c3 := fun m (hm : N1 + N2 + N3 + N4 + 5 ≤ m) d out ownV own i => h3 m (by omega) d out ownV own i
  have c4 := fun m (hm : N1 + N2 + N3 + N4 + 5 ≤ m) d out ownV own i => h4 m (by omega) d out ownV own i
  have e1 : (p.as.l.find? fun f => f.id == id) = arcF p id := rfl
  have e2 : ((arcF p id).getD zAc) = arcD p id := rfl
  have e3 : ∀ k : Int, (p.ns.l.find? fun f => f.id == k) = nodeF p k := fun k => rfl
  have e4 : ∀ k : Int, ((nodeF p k).getD zNd) = nodeD p k := fun k => rfl
  simp only [e1, e2, e3, e4, iv_eq, Pn.c, Ac.c, Nd.c] at c1 c2 c3 c4
  cases b1 : (arcF p id).isSome
  · refine ⟨nilS _ _, by simp [pathOk, b1], ?_⟩
    refine gives_fz (i := i23) (hS _ _ (by decide) (by decide) (by decide) (by decide)) rfl rfl (pathR_fz _ _) (N1 + N2 + N3 + N4 + 5) (by omega) fun m hm d out => ?_
    simp only [b1] at c1
    simp only [i23, Wall, e_nilchk, e_pick, e_box, e_bslice, e_load, e_store, e_eqb, e_eqp, e_eqs, e_eqagg, e_conv, e_faddr, e_field, e_extract, e_call, e_mx, mkAt, List.replicate, List.cons_append, List.nil_append, List.append_nil, List.all_cons, List.all_nil, Bool.and_self, Bool.and_true, Bool.true_and, if_true, List.length_nil, List.length_cons, Nat.zero_add, Nat.add_zero, Nat.reduceAdd, Nat.reduceMul, Nat.reduceLeDiff, Nat.le_refl, and_self, and_true, true_and, List.getElem?_cons_zero, List.getElem?_cons_succ, look, mkv, Option.map_some, Option.map_none, Option.bind_some, Bool.false_eq_true, if_false, List.map_cons, List.map_nil, binI, intBin, isShift, unI, reduceCtorEq, fillI, Nat.reduceEqDiff, Int.ofNat_lt, decide_true, decide_false, beq_iff_eq, cellV, List.append_assoc, List.length_append, Bool.not_true, Bool.not_false, Pn.c, c1 m hm, c2 m hm, c3 m hm, pathOk, b1, Bool.false_and, cond_false]
    rfl
  · cases b2 : (nodeF p (arcD p id).fr).isSome
    · refine ⟨nilS _ _, by simp [pathOk, b2], ?_⟩
      refine gives_fz (i := i23) (hS _ _ (by decide) (by decide) (by decide) (by decide)) rfl rfl (pathR_fz _ _) (N1 + N2 + N3 + N4 + 5) (by omega) fun m hm d out => ?_
      simp only [b1] at c1
      simp only [b2] at c2
      simp only [i23, Wall, e_nilchk, e_pick, e_box, e_bslice, e_load, e_store, e_eqb, e_eqp, e_eqs, e_eqagg, e_conv, e_faddr, e_field, e_extract, e_call, e_mx, mkAt, List.replicate, List.cons_append, List.nil_append, List.append_nil, List.all_cons, List.all_nil, Bool.and_self, Bool.and_true, Bool.true_and, if_true, List.length_nil, List.length_cons, Nat.zero_add, Nat.add_zero, Nat.reduceAdd, Nat.reduceMul, Nat.reduceLeDiff, Nat.le_refl, and_self, and_true, true_and, List.getElem?_cons_zero, List.getElem?_cons_succ, look, mkv, Option.map_some, Option.map_none, Option.bind_some, Bool.false_eq_true, if_false, List.map_cons, List.map_nil, binI, intBin, isShift, unI, reduceCtorEq, fillI, Nat.reduceEqDiff, Int.ofNat_lt, decide_true, decide_false, beq_iff_eq, cellV, List.append_assoc, List.length_append, Bool.not_true, Bool.not_false, Pn.c, c1 m hm, c2 m hm, c3 m hm, pathOk, b1, b2, Bool.false_and, Bool.and_false, cond_false]
      rfl
    · cases b3 : (nodeF p (arcD p id).to).isSome
      · refine ⟨nilS _ _, by simp [pathOk, b3], ?_⟩
        refine gives_fz (i := i23) (hS _ _ (by decide) (by decide) (by decide) (by decide)) rfl rfl (pathR_fz _ _) (N1 + N2 + N3 + N4 + 5) (by omega) fun m hm d out => ?_
        simp only [b1] at c1
        simp only [b2] at c2
        simp only [b3] at c3
        simp only [i23, Wall, e_nilchk, e_pick, e_box, e_bslice, e_load, e_store, e_eqb, e_eqp, e_eqs, e_eqagg, e_conv, e_faddr, e_field, e_extract, e_call, e_mx, mkAt, List.replicate, List.cons_append, List.nil_append, List.append_nil, List.all_cons, List.all_nil, Bool.and_self, Bool.and_true, Bool.true_and, if_true, List.length_nil, List.length_cons, Nat.zero_add, Nat.add_zero, Nat.reduceAdd, Nat.reduceMul, Nat.reduceLeDiff, Nat.le_refl, and_self, and_true, true_and, List.getElem?_cons_zero, List.getElem?_cons_succ, look, mkv, Option.map_some, Option.map_none, Option.bind_some, Bool.false_eq_true, if_false, List.map_cons, List.map_nil, binI, intBin, isShift, unI, reduceCtorEq, fillI, Nat.reduceEqDiff, Int.ofNat_lt, decide_true, decide_false, beq_iff_eq, cellV, List.append_assoc, List.length_append, Bool.not_true, Bool.not_false, Pn.c, c1 m hm, c2 m hm, c3 m hm, pathOk, b1, b2, b3, Bool.false_and, Bool.and_false, cond_false]
        rfl
      · refine ⟨q', fun _ => by rw [hq', hq1']; rfl, ?_⟩
        refine gives_fz (i := i23) (hS _ _ (by decide) (by decide) (by decide) (by decide)) rfl rfl (pathR_fz _ _) (N1 + N2 + N3 + N4 + 5) (by omega) fun m hm d out => ?_
        simp only [b1] at c1
        simp only [b2] at c2
        simp only [b3] at c3
        simp only [i23, Wall, e_nilchk, e_pick, e_box, e_bslice, e_load, e_store, e_eqb, e_eqp, e_eqs, e_eqagg, e_conv, e_faddr, e_field, e_extract, e_call, e_mx, mkAt, List.replicate, List.cons_append, List.nil_append, List.append_nil, List.all_cons, List.all_nil, Bool.and_self, Bool.and_true, Bool.true_and, if_true, List.length_nil, List.length_cons, Nat.zero_add, Nat.add_zero, Nat.reduceAdd, Nat.reduceMul, Nat.reduceLeDiff, Nat.le_refl, and_self, and_true, true_and, List.getElem?_cons_zero, List.getElem?_cons_succ, look, mkv, Option.map_some, Option.map_none, Option.bind_some, Bool.false_eq_true, if_false, List.map_cons, List.map_nil, binI, intBin, isShift, unI, reduceCtorEq, fillI, Nat.reduceEqDiff, Int.ofNat_lt, decide_true, decide_false, beq_iff_eq, cellV, List.append_assoc, List.length_append, Bool.not_true, Bool.not_false, Pn.c, rep, c1 m hm, c2 m hm, c3 m hm, c4 m hm, pathOk, b1, b2, b3, cond_true]
end
end Go.Proofs.YtbfljfjjnijigaaGreatDoor
end
section
namespace Go.Proofs.YtbfljfjjnijigaaGreatDoor
open Go Go.RowKit
set_option maxRecDepth 100000
theorem app_zero0 {d n0 sz z len slot n : Nat} (h : n = 0) {lk : Nat → Nat → Option IObj} {own : List IObj} {cs new : List IV} {tight : Bool} : appendI d n0 lk own sz (.slC cs len z tight) new n slot = some (.r, .slC cs len z tight, own) := by
  subst h
  exact app_zero
theorem app_slC {d n0 sz len slot n : Nat} (h : n ≠ 0) {lk : Nat → Nat → Option IObj} {own : List IObj} {cs new : List IV} (hb : len + n ≤ 1073741824) (hc : cs.length = len * sz) :
    appendI d n0 lk own sz (.slC cs len sz true) new n slot = mkAt own (n0 + slot) (.cells (cs ++ new)) (.slM d (n0 + slot) 0 (len + n) (len + n) sz false) := by
  unfold appendI
  rw [if_neg h]
  simp only
  rw [if_pos ⟨by unfold bound; omega, trivial⟩]
  have hseg : seg cs 0 (len * sz) = some cs := by
    unfold seg
    rw [if_pos (by omega), lit_eq, List.drop_zero, List.take_of_length_le (by omega)]
  simp only [hseg, lit_eq]
theorem app_kill {d n0 sz len slot n i : Nat} (h : n ≠ 0) {lk : Nat → Nat → Option IObj} {own : List IObj} {c new : List IV} (hb : len + n ≤ 1073741824) (hc : c.length = len * sz) (hs : new.all IV.scalar = true) (hl : lk d i = some (.cells c)) :
    appendI d n0 lk own sz (.slM d i 0 len len sz false) new n slot = killAt own i (n0 + slot) (.cells (c ++ new)) (.slM d (n0 + slot) 0 (len + n) (len + n) sz false) := by
  unfold appendI
  rw [if_neg h]
  simp only
  rw [if_pos ⟨by unfold bound; omega, trivial⟩]
  have hseg : seg c 0 (len * sz) = some c := by
    unfold seg
    rw [if_pos (by omega), lit_eq, List.drop_zero, List.take_of_length_le (by omega)]
  simp only [hl, hseg, lit_eq]
  rw [if_neg (by omega)]
  simp only [Bool.false_eq_true, if_false]
  rw [if_pos ⟨trivial, hs⟩]
section
variable {S : FuncId → List IV → Option IV}
theorem lineR_fz {v : IV} {b : Bool} {k : Nat} (h : Fz (k + 1) v) : Fz (k + 1 + 1) (.tuple [v, .bool b]) := by
  refine fz_tuple fun x hx => ?_
  simp only [List.mem_cons, List.not_mem_nil, or_false] at hx
  rcases hx with rfl | rfl
  · exact h
  · exact fz_bool.le (by omega)
theorem gives_line (hS : NoS S) (p : Pn) (a : Ac) (hv : a.via.l.length ≤ 100000) : ∃ q' : SlOf 2 Pt.c, q'.l = (nodeD p a.fr).at' :: (a.via.l ++ [(nodeD p a.to).at']) ∧
    Gives Ftab S 73 [.agg p.c, .agg a.c] (.tuple [q'.v, .bool ((nodeF p a.fr).isSome && (nodeF p a.to).isSome)]) := by
  obtain ⟨N2, h2⟩ := gives_rnode hS p a.fr
  obtain ⟨N3, h3⟩ := gives_rnode hS p a.to
  have hlen : ((nodeD p a.fr).at' :: (a.via.l ++ [(nodeD p a.to).at'])).length = 1 + a.via.l.length + 1 := by simp; omega
  refine ⟨mkRow Pt.c_len _ (1 + a.via.l.length + 1) false hlen (by omega), rfl, ?_⟩
  refine gives_fr (i := i73) (hS _ _ (by decide) (by decide) (by decide) (by decide)) rfl rfl (N2 + N3 + 5) fun m hm d out => ?_
  have c2 := fun d out ownV own i => h2 m (by omega) d out ownV own i
  have c3 := fun d out ownV own i => h3 m (by omega) d out ownV own i
  have e3 : ∀ k : Int, (p.ns.l.find? fun f => f.id == k) = nodeF p k := fun k => rfl
  have e4 : ∀ k : Int, ((nodeF p k).getD zNd) = nodeD p k := fun k => rfl
  simp only [e3, e4, iv_eq, Pn.c, Nd.c] at c2 c3
  have hfr : ∀ (own : List IObj) (i : Nat) (b : Bool), own[i]? = some (.cells (((nodeD p a.fr).at' :: (a.via.l ++ [(nodeD p a.to).at'])).flatMap Pt.c)) → freeze m d own (.tuple [.slM d i 0 (1 + a.via.l.length + 1) (1 + a.via.l.length + 1) 2 false, .bool b]) = some (.tuple [(mkRow Pt.c_len _ (1 + a.via.l.length + 1) false hlen (by omega)).v, .bool b]) := fun own i b ho => by
    obtain ⟨k, rfl⟩ : ∃ k, m = k + 1 + 1 + 1 := ⟨m - 3, by omega⟩
    exact freeze_tuple (mapM_c (freeze_slM (k := 1) ptc_fz (by omega) hlen Pt.c_len ho) (mapM_c rfl mapM_n))
  by_cases h0 : a.via.l.length = 0
  · have hl : a.via.l = [] := List.length_eq_zero_iff.1 h0
    have e : 1 + a.via.l.length + 1 = 2 := by omega
    have hfr2 : ∀ (own : List IObj) (i : Nat) (b : Bool), own[i]? = some (.cells (((nodeD p a.fr).at' :: (a.via.l ++ [(nodeD p a.to).at'])).flatMap Pt.c)) → freeze m d own (.tuple [.slM d i 0 2 2 2 false, .bool b]) = some (.tuple [(mkRow Pt.c_len _ (1 + a.via.l.length + 1) false hlen (by omega)).v, .bool b]) := fun own i b ho => by
      have := hfr own i b ho
      rwa [show (IV.slM d i 0 (1 + a.via.l.length + 1) (1 + a.via.l.length + 1) 2 false) = .slM d i 0 2 2 2 false by rw [e]] at this
    have a2 := fun n0 slot lk own => app_slC (d := d) (n0 := n0) (sz := 2) (len := 1) (slot := slot) (n := 1) (by omega) (lk := lk) (own := own) (cs := [.int .i64 (nodeD p a.fr).at'.x, .int .i64 (nodeD p a.fr).at'.y]) (new := [.int .i64 (nodeD p a.to).at'.x, .int .i64 (nodeD p a.to).at'.y]) (by omega) rfl
    cases b1 : (nodeF p a.fr).isSome <;> cases b2 : (nodeF p a.to).isSome
    all_goals
      simp only [b1] at c2
      simp only [b2] at c3
      simp only [i73, Wall, e_nilchk, e_pick, e_box, e_bslice, e_load, e_store, e_eqb, e_eqp, e_eqs, e_eqagg, e_conv, e_faddr, e_field, e_extract, e_call, e_mx, mkAt, List.replicate, List.cons_append, List.nil_append, List.append_nil, List.all_cons, List.all_nil, Bool.and_self, Bool.and_true, Bool.true_and, if_true, List.length_nil, List.length_cons, Nat.zero_add, Nat.add_zero, Nat.reduceAdd, Nat.reduceMul, Nat.reduceLeDiff, Nat.le_refl, and_self, and_true, true_and, List.getElem?_cons_zero, List.getElem?_cons_succ, look, mkv, Option.map_some, Option.map_none, Option.bind_some, Bool.false_eq_true, if_false, List.map_cons, List.map_nil, binI, intBin, isShift, unI, reduceCtorEq, fillI, Nat.reduceEqDiff, Int.ofNat_lt, decide_true, decide_false, beq_iff_eq, cellV, List.append_assoc, List.length_append, Bool.not_true, Bool.not_false, Pn.c, Ac.c, rep, c2, c3, ev_append, app_src, app_ok, cellsI_sl, cellsI_pt, app_zero0 h0, a2]
      refine ⟨rfl, ?_⟩
      simp only [Wall, e_nilchk, e_pick, e_box, e_bslice, e_load, e_store, e_eqb, e_eqp, e_eqs, e_eqagg, e_conv, e_faddr, e_field, e_extract, e_call, e_mx, mkAt, List.replicate, List.cons_append, List.nil_append, List.append_nil, List.all_cons, List.all_nil, Bool.and_self, Bool.and_true, Bool.true_and, if_true, List.length_nil, List.length_cons, Nat.zero_add, Nat.add_zero, Nat.reduceAdd, Nat.reduceMul, Nat.reduceLeDiff, Nat.le_refl, and_self, and_true, true_and, List.getElem?_cons_zero, List.getElem?_cons_succ, look, mkv, Option.map_some, Option.map_none, Option.bind_some, Bool.false_eq_true, if_false, List.map_cons, List.map_nil, binI, intBin, isShift, unI, reduceCtorEq, fillI, Nat.reduceEqDiff, Int.ofNat_lt, decide_true, decide_false, beq_iff_eq, cellV, List.append_assoc, List.length_append, Bool.not_true, Bool.not_false]
      refine ⟨_, rfl, ?_⟩
      exact hfr2 _ _ _ (by simp [hl, Pt.c, iv_eq])
  · have a1 := fun n0 slot lk own => app_slC (d := d) (n0 := n0) (sz := 2) (len := 1) (slot := slot) (n := a.via.l.length) h0 (lk := lk) (own := own) (cs := [.int .i64 (nodeD p a.fr).at'.x, .int .i64 (nodeD p a.fr).at'.y]) (new := a.via.l.flatMap Pt.c) (by omega) rfl
    have a2 := fun o0 o1 o2 o3 o4 o5 J slot own => app_kill (d := d) (n0 := 6) (sz := 2) (len := 1 + a.via.l.length) (slot := slot) (n := 1) (i := 6) (by omega) (lk := look d out (hide [0] 6 (o0 :: o1 :: o2 :: o3 :: o4 :: o5 :: .cells (.int .i64 (nodeD p a.fr).at'.x :: .int .i64 (nodeD p a.fr).at'.y :: a.via.l.flatMap Pt.c) :: J))) (own := own) (c := .int .i64 (nodeD p a.fr).at'.x :: .int .i64 (nodeD p a.fr).at'.y :: a.via.l.flatMap Pt.c)
      (new := [.int .i64 (nodeD p a.to).at'.x, .int .i64 (nodeD p a.to).at'.y]) (by omega) (by rw [List.length_cons, List.length_cons, flat_len Pt.c_len]; omega) rfl (by simp [look, hide_at])
    cases b1 : (nodeF p a.fr).isSome <;> cases b2 : (nodeF p a.to).isSome
    all_goals
      simp only [b1] at c2
      simp only [b2] at c3
      simp only [i73, Wall, e_nilchk, e_pick, e_box, e_bslice, e_load, e_store, e_eqb, e_eqp, e_eqs, e_eqagg, e_conv, e_faddr, e_field, e_extract, e_call, e_mx, mkAt, List.replicate, List.cons_append, List.nil_append, List.append_nil, List.all_cons, List.all_nil, Bool.and_self, Bool.and_true, Bool.true_and, if_true, List.length_nil, List.length_cons, Nat.zero_add, Nat.add_zero, Nat.reduceAdd, Nat.reduceMul, Nat.reduceLeDiff, Nat.le_refl, and_self, and_true, true_and, List.getElem?_cons_zero, List.getElem?_cons_succ, look, mkv, Option.map_some, Option.map_none, Option.bind_some, Bool.false_eq_true, if_false, List.map_cons, List.map_nil, binI, intBin, isShift, unI, reduceCtorEq, fillI, Nat.reduceEqDiff, Int.ofNat_lt, decide_true, decide_false, beq_iff_eq, cellV, List.append_assoc, List.length_append, Bool.not_true, Bool.not_false, Pn.c, Ac.c, rep, c2, c3, ev_append, app_src, app_ok, cellsI_sl, cellsI_pt, a1, a2, killAt]
      refine ⟨rfl, ?_⟩
      simp only [Wall, e_nilchk, e_pick, e_box, e_bslice, e_load, e_store, e_eqb, e_eqp, e_eqs, e_eqagg, e_conv, e_faddr, e_field, e_extract, e_call, e_mx, mkAt, List.replicate, List.cons_append, List.nil_append, List.append_nil, List.all_cons, List.all_nil, Bool.and_self, Bool.and_true, Bool.true_and, if_true, List.length_nil, List.length_cons, Nat.zero_add, Nat.add_zero, Nat.reduceAdd, Nat.reduceMul, Nat.reduceLeDiff, Nat.le_refl, and_self, and_true, true_and, List.getElem?_cons_zero, List.getElem?_cons_succ, look, mkv, Option.map_some, Option.map_none, Option.bind_some, Bool.false_eq_true, if_false, List.map_cons, List.map_nil, binI, intBin, isShift, unI, reduceCtorEq, fillI, Nat.reduceEqDiff, Int.ofNat_lt, decide_true, decide_false, beq_iff_eq, cellV, List.append_assoc, List.length_append, Bool.not_true, Bool.not_false]
      refine ⟨_, rfl, ?_⟩
      exact hfr _ _ _ (by simp [Pt.c, iv_eq])
theorem gives_rpath (hS : NoS S) (p : Pn) (id : Int) (hv : FewVia p) : ∃ q' : SlOf 2 Pt.c, (pathOk p id = true → q'.l = pathL p id) ∧ Gives Ftab S 50 [.agg p.c, iv id] (.tuple [q'.v, iv (bif pathOk p id then 0 else 7)]) := by
  obtain ⟨q1, hq1, N1, h1⟩ := gives_rarc hS p id (fun f hf => by have := hv f hf; omega)
  have hq1' : q1.l = (arcD p id).via.l := hq1
  have hlen : q1.l.length ≤ 100000 := by rw [hq1']; exact fewD hv id
  obtain ⟨q', hq', N4, h4⟩ := gives_line hS p { arcD p id with via := q1 } hlen
  have c1 := fun m (hm : N1 + N4 + 5 ≤ m) d out ownV own i => h1 m (by omega) d out ownV own i
  have c4 := fun m (hm : N1 + N4 + 5 ≤ m) d out ownV own i => h4 m (by omega) d out ownV own i
  have e1 : (p.as.l.find? fun f => f.id == id) = arcF p id := rfl
  have e2 : ((arcF p id).getD zAc) = arcD p id := rfl
  simp only [e1, e2, iv_eq, Pn.c, Ac.c] at c1 c4
  cases b1 : (arcF p id).isSome
  · refine ⟨nilS _ _, by simp [pathOk, b1], ?_⟩
    refine gives_fz (i := i50) (hS _ _ (by decide) (by decide) (by decide) (by decide)) rfl rfl (pathR_fz _ _) (N1 + N4 + 5) (by omega) fun m hm d out => ?_
    simp only [b1] at c1
    simp only [i50, Wall, e_nilchk, e_pick, e_box, e_bslice, e_load, e_store, e_eqb, e_eqp, e_eqs, e_eqagg, e_conv, e_faddr, e_field, e_extract, e_call, e_mx, mkAt, List.replicate, List.cons_append, List.nil_append, List.append_nil, List.all_cons, List.all_nil, Bool.and_self, Bool.and_true, Bool.true_and, if_true, List.length_nil, List.length_cons, Nat.zero_add, Nat.add_zero, Nat.reduceAdd, Nat.reduceMul, Nat.reduceLeDiff, Nat.le_refl, and_self, and_true, true_and, List.getElem?_cons_zero, List.getElem?_cons_succ, look, mkv, Option.map_some, Option.map_none, Option.bind_some, Bool.false_eq_true, if_false, List.map_cons, List.map_nil, binI, intBin, isShift, unI, reduceCtorEq, fillI, Nat.reduceEqDiff, Int.ofNat_lt, decide_true, decide_false, beq_iff_eq, cellV, List.append_assoc, List.length_append, Bool.not_true, Bool.not_false, Pn.c, c1 m hm, c4 m hm, pathOk, b1, Bool.false_and, cond_false]
    rfl
  · cases b2 : (nodeF p (arcD p id).fr).isSome && (nodeF p (arcD p id).to).isSome
    · refine ⟨nilS _ _, by simp [pathOk, b2], ?_⟩
      refine gives_fz (i := i50) (hS _ _ (by decide) (by decide) (by decide) (by decide)) rfl rfl (pathR_fz _ _) (N1 + N4 + 5) (by omega) fun m hm d out => ?_
      simp only [b1] at c1
      simp only [b2] at c4
      simp only [i50, Wall, e_nilchk, e_pick, e_box, e_bslice, e_load, e_store, e_eqb, e_eqp, e_eqs, e_eqagg, e_conv, e_faddr, e_field, e_extract, e_call, e_mx, mkAt, List.replicate, List.cons_append, List.nil_append, List.append_nil, List.all_cons, List.all_nil, Bool.and_self, Bool.and_true, Bool.true_and, if_true, List.length_nil, List.length_cons, Nat.zero_add, Nat.add_zero, Nat.reduceAdd, Nat.reduceMul, Nat.reduceLeDiff, Nat.le_refl, and_self, and_true, true_and, List.getElem?_cons_zero, List.getElem?_cons_succ, look, mkv, Option.map_some, Option.map_none, Option.bind_some, Bool.false_eq_true, if_false, List.map_cons, List.map_nil, binI, intBin, isShift, unI, reduceCtorEq, fillI, Nat.reduceEqDiff, Int.ofNat_lt, decide_true, decide_false, beq_iff_eq, cellV, List.append_assoc, List.length_append, Bool.not_true, Bool.not_false, Pn.c, c1 m hm, c4 m hm, pathOk, b1, b2, Bool.false_and, Bool.and_false, cond_false]
      rfl
    · refine ⟨q', fun _ => by rw [hq', hq1']; rfl, ?_⟩
      refine gives_fz (i := i50) (hS _ _ (by decide) (by decide) (by decide) (by decide)) rfl rfl (pathR_fz _ _) (N1 + N4 + 5) (by omega) fun m hm d out => ?_
      simp only [b1] at c1
      simp only [b2] at c4
      simp only [i50, Wall, e_nilchk, e_pick, e_box, e_bslice, e_load, e_store, e_eqb, e_eqp, e_eqs, e_eqagg, e_conv, e_faddr, e_field, e_extract, e_call, e_mx, mkAt, List.replicate, List.cons_append, List.nil_append, List.append_nil, List.all_cons, List.all_nil, Bool.and_self, Bool.and_true, Bool.true_and, if_true, List.length_nil, List.length_cons, Nat.zero_add, Nat.add_zero, Nat.reduceAdd, Nat.reduceMul, Nat.reduceLeDiff, Nat.le_refl, and_self, and_true, true_and, List.getElem?_cons_zero, List.getElem?_cons_succ, look, mkv, Option.map_some, Option.map_none, Option.bind_some, Bool.false_eq_true, if_false, List.map_cons, List.map_nil, binI, intBin, isShift, unI, reduceCtorEq, fillI, Nat.reduceEqDiff, Int.ofNat_lt, decide_true, decide_false, beq_iff_eq, cellV, List.append_assoc, List.length_append, Bool.not_true, Bool.not_false, Pn.c, c1 m hm, c4 m hm, pathOk, b1, b2, cond_true]
end
end Go.Proofs.YtbfljfjjnijigaaGreatDoor
end
section
namespace Go.Proofs.YtbfljfjjnijigaaGreatDoor
open Go Go.RowKit
set_option maxRecDepth 100000
theorem gives_unif {F : FuncId → Option IFn} {S : FuncId → List IV → Option IV} {α : Type} {f : FuncId} {a : α → List IV} {v : α → IV} : ∀ (l : List α), (∀ x ∈ l, Gives F S f (a x) (v x)) → ∃ N, ∀ x ∈ l, ∀ m, N ≤ m → ∀ d out ownV own id, callN F S m d out ownV own id f (a x) = some (.r, v x, own)
  | [], _ => ⟨0, fun x hx => by simp at hx⟩
  | y :: l, h => by
    obtain ⟨N1, h1⟩ := h y (List.mem_cons_self ..)
    obtain ⟨N2, h2⟩ := gives_unif l fun x hx => h x (List.mem_cons_of_mem _ hx)
    refine ⟨N1 + N2, fun x hx m hm => ?_⟩
    rcases List.mem_cons.1 hx with rfl | hx
    · exact h1 m (by omega)
    · exact h2 x hx m (by omega)
def userB (shape id : Int) (f : Ft) : Bool := shapeI f.kind == shape && f.parts.l.contains id
def usersL (l : List Ft) (shape id : Int) : List Int := (l.filter (userB shape id)).map (·.id)
theorem shapeI_range (k : Int) : 0 ≤ shapeI k ∧ shapeI k ≤ 3 := by
  unfold shapeI
  cases k == 1 || k == 2 || k == 8 <;> cases k == 3 || k == 4 <;> cases k == 5 || k == 6 || k == 7 <;> simp
theorem users_next {l : List Ft} {i : Nat} {x : Ft} {shape id : Int} (hx : l[i]? = some x) : usersL (l.take (i + 1)) shape id = usersL (l.take i) shape id ++ (if userB shape id x then [x.id] else []) := by
  unfold usersL
  rw [List.take_add_one, hx, Option.toList_some, List.filter_append, List.map_append]
  congr 1
  cases h : userB shape id x <;> simp [List.filter_cons, h]
theorem users_none {l : List Ft} {shape id : Int} (h : shape < 1 ∨ 3 < shape) (h0 : shape ≠ 0) : usersL l shape id = [] := by
  unfold usersL
  rw [List.filter_eq_nil_iff.2, List.map_nil]
  intro f _
  have := shapeI_range f.kind
  have hne : (shapeI f.kind == shape) = false := by
    rw [beq_eq_false_iff_ne]
    omega
  simp [userB, hne]
def OwnI (d : Nat) (J : List IObj) (lv : IV) (xs : List Int) : Prop := (xs = [] ∧ lv = .nilsl) ∨ ∃ b, xs ≠ [] ∧ lv = .slM d (b + 1) 0 xs.length xs.length 1 false ∧ J[b]? = some (.cells (xs.flatMap intc))
theorem OwnI.more {d : Nat} {J : List IObj} {lv : IV} {xs : List Int} (h : OwnI d J lv xs) (r : List IObj) : OwnI d (J ++ r) lv xs := by
  rcases h with h | ⟨b, hne, h1, h2⟩
  · exact .inl h
  · exact .inr ⟨b, hne, h1, by rw [List.getElem?_append_left (List.getElem?_eq_some_iff.1 h2).1]; exact h2⟩
def ownQ (xs : List Int) (hx : xs.length < 9223372036854775808) : SlOf 1 intc := match xs, hx with
  | [], _ => nilS _ _
  | x :: t, hx => mkRow intc_len (x :: t) (x :: t).length false rfl hx
theorem ownQ_l (xs : List Int) (hx : xs.length < 9223372036854775808) : (ownQ xs hx).l = xs := by cases xs <;> rfl
theorem ownI_fz {d m : Nat} {J : List IObj} {lv : IV} {xs : List Int} {o : IObj} (hm : 2 ≤ m) (hx : xs.length < 9223372036854775808) (h : OwnI d J lv xs) : freeze m d (o :: J) lv = some (ownQ xs hx).v := by
  rcases h with ⟨rfl, rfl⟩ | ⟨b, hne, rfl, h2⟩
  · exact fz_nilsl m (by omega) d _
  · cases xs with
    | nil =>
      exact absurd rfl hne
    | cons x t => exact freeze_slM (k := 1) intc_fz (by omega) rfl intc_len (by rw [List.getElem?_cons_succ]; exact h2)
theorem ownI_app {d n0 slot k : Nat} {out : Nat → List IObj} {J J' : List IObj} {lv : IV} {xs : List Int} {y : Int} {o : IObj} (h : OwnI d J lv xs) (hx : xs.length ≤ 1000000) (hk : n0 + slot = J.length + k + 1) (hf : J'[k]? = some .free) :
    ∃ e lv' J2, appendI d n0 (look d out (o :: (J ++ J'))) (o :: (J ++ J')) 1 lv [.int .i64 y] 1 slot = some (e, lv', o :: J2) ∧ OwnI d J2 lv' (xs ++ [y]) := by
  have hkl : k < J'.length := (List.getElem?_eq_some_iff.1 hf).1
  have hget : (J ++ J')[J.length + k]? = some .free := by
    rw [List.getElem?_append_right (by omega), Nat.add_sub_cancel_left]
    exact hf
  have hlt : J.length + k < (J ++ J').length := by rw [List.length_append]; omega
  rcases h with ⟨rfl, rfl⟩ | ⟨b, hne, rfl, h2⟩
  · rw [app_nil (by omega) (by unfold bound; omega)]
    unfold mkAt
    rw [hk, List.getElem?_cons_succ, hget]
    simp only [lit_eq, List.set_cons_succ]
    refine ⟨_, _, _, rfl, .inr ⟨J.length + k, by simp, by simp, ?_⟩⟩
    rw [List.getElem?_set_self hlt]
    rfl
  · have hb : b < J.length := (List.getElem?_eq_some_iff.1 h2).1
    have hb2 : (J ++ J')[b]? = some (.cells (xs.flatMap intc)) := by rw [List.getElem?_append_left hb]; exact h2
    rw [app_kill (by omega) (by omega) (by rw [flat_len intc_len]) rfl (by simp only [look, if_true, List.getElem?_cons_succ]; exact hb2)]
    unfold killAt
    rw [hk, List.getElem?_cons_succ, hget]
    simp only [lit_eq, List.set_cons_succ]
    refine ⟨_, _, _, rfl, .inr ⟨J.length + k, by simp, by simp, ?_⟩⟩
    rw [List.getElem?_set_self (by rw [List.length_set]; exact hlt)]
    simp [intc, iv_eq]
section
variable {S : FuncId → List IV → Option IV}
theorem cellsI_i1 {lk : Nat → Nat → Option IObj} {x : Int} {tight : Bool} : cellsI lk 1 (.slC [.int .i64 x] 1 1 tight) = some ([.int .i64 x], 1) := by
  simp [cellsI, seg, lit_eq]
theorem usersL_le (l : List Ft) (shape id : Int) : (usersL l shape id).length ≤ l.length := by
  unfold usersL
  rw [List.length_map]
  exact List.length_filter_le ..
theorem gives_users (hS : NoS S) (s : Sv) (shape id : Int) (hft : s.ft.l.length ≤ 100000) (hz : shape ≠ 0) : ∃ q : SlOf 1 intc, q.l = usersL s.ft.l shape id ∧ Gives Ftab S 14 [.agg s.c, iv shape, iv id] q.v := by
  obtain ⟨N1, h1⟩ := gives_unif (f := 11) (a := fun x : Ft => [iv x.kind]) (v := fun x => iv (shapeI x.kind)) s.ft.l fun x _ => gives_shape hS x.kind
  obtain ⟨N2, h2⟩ := gives_unif (f := 25) (a := fun x : Ft => [x.parts.v, iv id]) (v := fun x => .bool (x.parts.l.contains id)) s.ft.l fun x _ => gives_contains hS x.parts id
  have hlx : (usersL s.ft.l shape id).length < 9223372036854775808 := by have := usersL_le s.ft.l shape id; omega
  refine ⟨ownQ _ hlx, ownQ_l _ _, ?_⟩
  cases hlo : decide (shape < 1)
  rotate_left
  · have he : usersL s.ft.l shape id = [] := users_none (.inl (by simpa using hlo)) hz
    refine gives_fz (i := i14) (k := 1 + 1 + 1) (hS _ _ (by decide) (by decide) (by decide) (by decide)) rfl rfl (slOf_fz intc_fz _) 3 (by omega) fun m hm d out => ?_
    simp only [i14, Wall, e_nilchk, e_pick, e_box, e_bslice, e_load, e_store, e_eqb, e_eqp, e_eqs, e_eqagg, e_conv, e_faddr, e_field, e_extract, e_call, e_mx, mkAt, List.replicate, List.cons_append, List.nil_append, List.append_nil, List.all_cons, List.all_nil, Bool.and_self, Bool.and_true, Bool.true_and, if_true, List.length_nil, List.length_cons, Nat.zero_add, Nat.add_zero, Nat.reduceAdd, Nat.reduceMul, Nat.reduceLeDiff, Nat.le_refl, and_self, and_true, true_and, List.getElem?_cons_zero, List.getElem?_cons_succ, look, mkv, Option.map_some, Option.map_none, Option.bind_some, Bool.false_eq_true, if_false, List.map_cons, List.map_nil, binI, intBin, isShift, unI, reduceCtorEq, fillI, Nat.reduceEqDiff, Int.ofNat_lt, decide_true, decide_false, beq_iff_eq, cellV, List.append_assoc, List.length_append, Bool.not_true, Bool.not_false, Sv.c, hlo]
    generalize usersL s.ft.l shape id = xs at he hlx
    subst he
    rfl
  cases hhi : decide (shape > 3)
  rotate_left
  · have he : usersL s.ft.l shape id = [] := users_none (.inr (by simpa using hhi)) hz
    refine gives_fz (i := i14) (k := 1 + 1 + 1) (hS _ _ (by decide) (by decide) (by decide) (by decide)) rfl rfl (slOf_fz intc_fz _) 3 (by omega) fun m hm d out => ?_
    simp only [i14, Wall, e_nilchk, e_pick, e_box, e_bslice, e_load, e_store, e_eqb, e_eqp, e_eqs, e_eqagg, e_conv, e_faddr, e_field, e_extract, e_call, e_mx, mkAt, List.replicate, List.cons_append, List.nil_append, List.append_nil, List.all_cons, List.all_nil, Bool.and_self, Bool.and_true, Bool.true_and, if_true, List.length_nil, List.length_cons, Nat.zero_add, Nat.add_zero, Nat.reduceAdd, Nat.reduceMul, Nat.reduceLeDiff, Nat.le_refl, and_self, and_true, true_and, List.getElem?_cons_zero, List.getElem?_cons_succ, look, mkv, Option.map_some, Option.map_none, Option.bind_some, Bool.false_eq_true, if_false, List.map_cons, List.map_nil, binI, intBin, isShift, unI, reduceCtorEq, fillI, Nat.reduceEqDiff, Int.ofNat_lt, decide_true, decide_false, beq_iff_eq, cellV, List.append_assoc, List.length_append, Bool.not_true, Bool.not_false, Sv.c, hlo, hhi]
    generalize usersL s.ft.l shape id = xs at he hlx
    subst he
    rfl
  refine gives_fr (i := i14) (hS _ _ (by decide) (by decide) (by decide) (by decide)) rfl rfl (N1 + N2 + s.ft.l.length + 8) fun m hm d out => ?_
  simp only [i14, Wall, e_nilchk, e_pick, e_box, e_bslice, e_load, e_store, e_eqb, e_eqp, e_eqs, e_eqagg, e_conv, e_faddr, e_field, e_extract, e_call, e_mx, mkAt, List.replicate, List.cons_append, List.nil_append, List.append_nil, List.all_cons, List.all_nil, Bool.and_self, Bool.and_true, Bool.true_and, if_true, List.length_nil, List.length_cons, Nat.zero_add, Nat.add_zero, Nat.reduceAdd, Nat.reduceMul, Nat.reduceLeDiff, Nat.le_refl, and_self, and_true, true_and, List.getElem?_cons_zero, List.getElem?_cons_succ, look, mkv, Option.map_some, Option.map_none, Option.bind_some, Bool.false_eq_true, if_false, List.map_cons, List.map_nil, binI, intBin, isShift, unI, reduceCtorEq, fillI, Nat.reduceEqDiff, Int.ofNat_lt, decide_true, decide_false, beq_iff_eq, cellV, List.append_assoc, List.length_append, Bool.not_true, Bool.not_false, Sv.c, hlo, hhi]
  refine ex_rounds (fun j st => ∃ i, j = s.ft.l.length - i ∧ i ≤ s.ft.l.length ∧ ∃ J lv a4 a5 a7 a8 a9 a10 a11 a12 a13 a14 a15 a19 a20 a21 a22 a23 a24 a25 a26 a27 a28 a29 a30 a31 a32 a33 a34 a35 a36 a37 a38 a39, OwnI d J lv (usersL (s.ft.l.take i) shape id) ∧ st = ⟨[.agg s.c, iv shape, iv id, .ptrM d 0 0, a4, a5, lv, a7, a8, a9, a10, a11, a12, a13, a14, a15, s.ft.v, iv (s.ft.l.length : Nat), iv i, a19, a20, a21, a22, a23, a24, a25, a26, a27, a28, a29, a30, a31, a32, a33, a34, a35, a36, a37, a38, a39], .cells [s.pl.ns.v, s.pl.as.v, s.pl.fs.v, s.ft.v] :: J⟩) s.ft.l.length (by omega) ⟨0, by omega, by omega, [], .nilsl, _, _, _, _, _, _, _, _, _, _, _, _, _, _, _, _, _, _, _, _, _, _, _, _, _, _, _, _, _, _, _, _, .inl ⟨rfl, rfl⟩, rfl⟩ ?_
  rintro j st K ⟨i, rfl, hi, J, lv, a4, a5, a7, a8, a9, a10, a11, a12, a13, a14, a15, a19, a20, a21, a22, a23, a24, a25, a26, a27, a28, a29, a30, a31, a32, a33, a34, a35, a36, a37, a38, a39, hO, rfl⟩ hn he hr
  by_cases h : i < s.ft.l.length
  · have hx : s.ft.l[i]? = some s.ft.l[i] := List.getElem?_eq_getElem h
    generalize s.ft.l[i] = x at hx
    have hmem := List.mem_of_getElem? hx
    have hrd : rdN (s.ft.l.flatMap Ft.c) (i * 5) 5 = some x.c := (rdN_flat Ft.c_len 0 5 hx (by omega)).trans rfl
    have hw : wrapI .i64 ((i : Int) + 1) = ((i + 1 : Nat) : Int) := wrap_succ (by have := s.ft.few; omega)
    have c1 := fun d out ownV own i => h1 x hmem m (by omega) d out ownV own i
    have c2 := fun d out ownV own i => h2 x hmem m (by omega) d out ownV own i
    simp only [iv_eq] at c1 c2
    have hul := usersL_le (s.ft.l.take i) shape id
    rw [List.length_take] at hul
    have hnx := users_next (shape := shape) (id := id) hx
    cases hb1 : shapeI x.kind == shape
    · simp only [userB, hb1, Bool.false_and, Bool.false_eq_true, if_false, List.append_nil] at hnx
      simp only [Wall, e_nilchk, e_pick, e_box, e_bslice, e_load, e_store, e_eqb, e_eqp, e_eqs, e_eqagg, e_conv, e_faddr, e_field, e_extract, e_call, e_mx, mkAt, List.replicate, List.cons_append, List.nil_append, List.append_nil, List.all_cons, List.all_nil, Bool.and_self, Bool.and_true, Bool.true_and, if_true, List.length_nil, List.length_cons, Nat.zero_add, Nat.add_zero, Nat.reduceAdd, Nat.reduceMul, Nat.reduceLeDiff, Nat.le_refl, and_self, and_true, true_and, List.getElem?_cons_zero, List.getElem?_cons_succ, look, mkv, Option.map_some, Option.map_none, Option.bind_some, Bool.false_eq_true, if_false, List.map_cons, List.map_nil, binI, intBin, isShift, unI, reduceCtorEq, fillI, Nat.reduceEqDiff, Int.ofNat_lt, decide_true, decide_false, beq_iff_eq, cellV, List.append_assoc, List.length_append, Bool.not_true, Bool.not_false, h, iaddrV_sl s.ft h, hrd, Ft.c, c1, hb1, hw]
      exact hn _ (s.ft.l.length - (i + 1)) (by omega) ⟨i + 1, rfl, by omega, _, lv, _, _, _, _, _, _, _, _, _, _, _, _, _, _, _, _, _, _, _, _, _, _, _, _, _, _, _, _, _, _, _, _, by rw [hnx]; exact hO.more _, rfl⟩
    · cases hb2 : x.parts.l.contains id
      · simp only [userB, hb1, hb2, Bool.and_false, Bool.false_eq_true, if_false, List.append_nil] at hnx
        simp only [Wall, e_nilchk, e_pick, e_box, e_bslice, e_load, e_store, e_eqb, e_eqp, e_eqs, e_eqagg, e_conv, e_faddr, e_field, e_extract, e_call, e_mx, mkAt, List.replicate, List.cons_append, List.nil_append, List.append_nil, List.all_cons, List.all_nil, Bool.and_self, Bool.and_true, Bool.true_and, if_true, List.length_nil, List.length_cons, Nat.zero_add, Nat.add_zero, Nat.reduceAdd, Nat.reduceMul, Nat.reduceLeDiff, Nat.le_refl, and_self, and_true, true_and, List.getElem?_cons_zero, List.getElem?_cons_succ, look, mkv, Option.map_some, Option.map_none, Option.bind_some, Bool.false_eq_true, if_false, List.map_cons, List.map_nil, binI, intBin, isShift, unI, reduceCtorEq, fillI, Nat.reduceEqDiff, Int.ofNat_lt, decide_true, decide_false, beq_iff_eq, cellV, List.append_assoc, List.length_append, Bool.not_true, Bool.not_false, h, iaddrV_sl s.ft h, hrd, Ft.c, c1, c2, hb1, hb2, hw]
        exact hn _ (s.ft.l.length - (i + 1)) (by omega) ⟨i + 1, rfl, by omega, _, lv, _, _, _, _, _, _, _, _, _, _, _, _, _, _, _, _, _, _, _, _, _, _, _, _, _, _, _, _, _, _, _, _, by rw [hnx]; exact hO.more _, rfl⟩
      · simp only [userB, hb1, hb2, Bool.and_self, if_true] at hnx
        obtain ⟨e, lv', J2, happ, hO2⟩ := ownI_app (n0 := J.length + 3 + 1) (slot := 0) (k := 3) (out := out) (J' := [.cells [.int .i64 x.id, .int .i64 x.kind, .int .i64 x.cls, .str x.name.1, x.parts.v], .free, .free, .free]) (o := .cells [s.pl.ns.v, s.pl.as.v, s.pl.fs.v, s.ft.v]) (y := x.id) hO (by omega) (by omega) rfl
        simp only [Wall, e_nilchk, e_pick, e_box, e_bslice, e_load, e_store, e_eqb, e_eqp, e_eqs, e_eqagg, e_conv, e_faddr, e_field, e_extract, e_call, e_mx, mkAt, List.replicate, List.cons_append, List.nil_append, List.append_nil, List.all_cons, List.all_nil, Bool.and_self, Bool.and_true, Bool.true_and, if_true, List.length_nil, List.length_cons, Nat.zero_add, Nat.add_zero, Nat.reduceAdd, Nat.reduceMul, Nat.reduceLeDiff, Nat.le_refl, and_self, and_true, true_and, List.getElem?_cons_zero, List.getElem?_cons_succ, look, mkv, Option.map_some, Option.map_none, Option.bind_some, Bool.false_eq_true, if_false, List.map_cons, List.map_nil, binI, intBin, isShift, unI, reduceCtorEq, fillI, Nat.reduceEqDiff, Int.ofNat_lt, decide_true, decide_false, beq_iff_eq, cellV, List.append_assoc, List.length_append, Bool.not_true, Bool.not_false, h, iaddrV_sl s.ft h, hrd, Ft.c, c1, c2, hb1, hb2, hw, rep, ev_append, app_src, app_ok, cellsI_i1, happ]
        exact hn _ (s.ft.l.length - (i + 1)) (by omega) ⟨i + 1, rfl, by omega, J2, lv', _, _, _, _, _, _, _, _, _, _, _, _, _, _, _, _, _, _, _, _, _, _, _, _, _, _, _, _, _, _, _, _, by rw [hnx]; exact hO2, rfl⟩
  · simp only [Wall, e_nilchk, e_pick, e_box, e_bslice, e_load, e_store, e_eqb, e_eqp, e_eqs, e_eqagg, e_conv, e_faddr, e_field, e_extract, e_call, e_mx, mkAt, List.replicate, List.cons_append, List.nil_append, List.append_nil, List.all_cons, List.all_nil, Bool.and_self, Bool.and_true, Bool.true_and, if_true, List.length_nil, List.length_cons, Nat.zero_add, Nat.add_zero, Nat.reduceAdd, Nat.reduceMul, Nat.reduceLeDiff, Nat.le_refl, and_self, and_true, true_and, List.getElem?_cons_zero, List.getElem?_cons_succ, look, mkv, Option.map_some, Option.map_none, Option.bind_some, Bool.false_eq_true, if_false, List.map_cons, List.map_nil, binI, intBin, isShift, unI, reduceCtorEq, fillI, Nat.reduceEqDiff, Int.ofNat_lt, decide_true, decide_false, beq_iff_eq, cellV, List.append_assoc, List.length_append, Bool.not_true, Bool.not_false, h]
    refine he _ _ ?_
    simp only [Wall, e_nilchk, e_pick, e_box, e_bslice, e_load, e_store, e_eqb, e_eqp, e_eqs, e_eqagg, e_conv, e_faddr, e_field, e_extract, e_call, e_mx, mkAt, List.replicate, List.cons_append, List.nil_append, List.append_nil, List.all_cons, List.all_nil, Bool.and_self, Bool.and_true, Bool.true_and, if_true, List.length_nil, List.length_cons, Nat.zero_add, Nat.add_zero, Nat.reduceAdd, Nat.reduceMul, Nat.reduceLeDiff, Nat.le_refl, and_self, and_true, true_and, List.getElem?_cons_zero, List.getElem?_cons_succ, look, mkv, Option.map_some, Option.map_none, Option.bind_some, Bool.false_eq_true, if_false, List.map_cons, List.map_nil, binI, intBin, isShift, unI, reduceCtorEq, fillI, Nat.reduceEqDiff, Int.ofNat_lt, decide_true, decide_false, beq_iff_eq, cellV, List.append_assoc, List.length_append, Bool.not_true, Bool.not_false]
    rw [List.take_of_length_le (by omega)] at hO
    exact ⟨_, rfl, ownI_fz (by omega) hlx hO⟩
end
end Go.Proofs.YtbfljfjjnijigaaGreatDoor
end
section
namespace Go.Proofs.YtbfljfjjnijigaaGreatDoor
open Go Go.RowKit
set_option maxRecDepth 100000
section
variable {S : FuncId → List IV → Option IV}
theorem gives_users0 (hS : NoS S) (s : Sv) (id : Int) : Gives Ftab S 14 [.agg s.c, iv 0, iv id] .nilsl := by
  refine gives_fz (i := i14) (k := 1) (hS _ _ (by decide) (by decide) (by decide) (by decide)) rfl rfl fz_nilsl 3 (by omega) fun m hm d out => ?_
  have hlo : decide ((0 : Int) < 1) = true := by decide
  simp only [i14, Wall, e_nilchk, e_pick, e_box, e_bslice, e_load, e_store, e_eqb, e_eqp, e_eqs, e_eqagg, e_conv, e_faddr, e_field, e_extract, e_call, e_mx, mkAt, List.replicate, List.cons_append, List.nil_append, List.append_nil, List.all_cons, List.all_nil, Bool.and_self, Bool.and_true, Bool.true_and, if_true, List.length_nil, List.length_cons, Nat.zero_add, Nat.add_zero, Nat.reduceAdd, Nat.reduceMul, Nat.reduceLeDiff, Nat.le_refl, and_self, and_true, true_and, List.getElem?_cons_zero, List.getElem?_cons_succ, look, mkv, Option.map_some, Option.map_none, Option.bind_some, Bool.false_eq_true, if_false, List.map_cons, List.map_nil, binI, intBin, isShift, unI, reduceCtorEq, fillI, Nat.reduceEqDiff, Int.ofNat_lt, decide_true, decide_false, beq_iff_eq, cellV, List.append_assoc, List.length_append, Bool.not_true, Bool.not_false, Sv.c, hlo]
theorem gives_rusers (hS : NoS S) (s : Sv) (shape id : Int) (hft : s.ft.l.length ≤ 100000) (hz : shape ≠ 0) : ∃ q : SlOf 1 intc, q.l = usersL s.ft.l shape id ∧ Gives Ftab S 15 [.agg s.c, iv shape, iv id] q.v := by
  obtain ⟨N1, h1⟩ := gives_unif (f := 12) (a := fun x : Ft => [iv x.kind]) (v := fun x => iv (shapeI x.kind)) s.ft.l fun x _ => gives_rshape hS x.kind
  obtain ⟨N2, h2⟩ := gives_unif (f := 28) (a := fun x : Ft => [x.parts.v, iv id]) (v := fun x => .bool (x.parts.l.contains id)) s.ft.l fun x _ => gives_has hS x.parts id
  have hlx : (usersL s.ft.l shape id).length < 9223372036854775808 := by have := usersL_le s.ft.l shape id; omega
  refine ⟨ownQ _ hlx, ownQ_l _ _, ?_⟩
  have hz' : (shape != 0) = true := by simpa using hz
  refine gives_fr (i := i15) (hS _ _ (by decide) (by decide) (by decide) (by decide)) rfl rfl (N1 + N2 + s.ft.l.length + 8) fun m hm d out => ?_
  simp only [i15, Wall, e_nilchk, e_pick, e_box, e_bslice, e_load, e_store, e_eqb, e_eqp, e_eqs, e_eqagg, e_conv, e_faddr, e_field, e_extract, e_call, e_mx, mkAt, List.replicate, List.cons_append, List.nil_append, List.append_nil, List.all_cons, List.all_nil, Bool.and_self, Bool.and_true, Bool.true_and, if_true, List.length_nil, List.length_cons, Nat.zero_add, Nat.add_zero, Nat.reduceAdd, Nat.reduceMul, Nat.reduceLeDiff, Nat.le_refl, and_self, and_true, true_and, List.getElem?_cons_zero, List.getElem?_cons_succ, look, mkv, Option.map_some, Option.map_none, Option.bind_some, Bool.false_eq_true, if_false, List.map_cons, List.map_nil, binI, intBin, isShift, unI, reduceCtorEq, fillI, Nat.reduceEqDiff, Int.ofNat_lt, decide_true, decide_false, beq_iff_eq, cellV, List.append_assoc, List.length_append, Bool.not_true, Bool.not_false, Sv.c]
  refine ex_rounds (fun j st => ∃ i, j = s.ft.l.length - i ∧ i ≤ s.ft.l.length ∧ ∃ J lv a4 a5 a6 a9 a10 a11 a12 a13 a14 a15 a16 a17 a18 a19 a20 a21 a22 a23 a24 a25 a26 a27 a28 a29 a30 a31 a32 a33 a34 a35 a36 a37 a38 a39 a40 a41 a42 a43 a44 a45 a46 a47 a48, OwnI d J lv (usersL (s.ft.l.take i) shape id) ∧ st = ⟨[.agg s.c, iv shape, iv id, .ptrM d 0 0, a4, a5, a6, lv, iv i, a9, a10, a11, a12, a13, a14, a15, a16, a17, a18, a19, a20, a21, a22, a23, a24, a25, a26, a27, a28, a29, a30, a31, a32, a33, a34, a35, a36, a37, a38, a39, a40, a41, a42, a43, a44, a45, a46, a47, a48], .cells [s.pl.ns.v, s.pl.as.v, s.pl.fs.v, s.ft.v] :: J⟩) s.ft.l.length (by omega) ⟨0, by omega, by omega, [], .nilsl, _, _, _, _, _, _, _, _, _, _, _, _, _, _, _, _, _, _, _, _, _, _, _, _, _, _, _, _, _, _, _, _, _, _, _, _, _, _, _, _, _, _, _, .inl ⟨rfl, rfl⟩, rfl⟩ ?_
  rintro j st K ⟨i, rfl, hi, J, lv, a4, a5, a6, a9, a10, a11, a12, a13, a14, a15, a16, a17, a18, a19, a20, a21, a22, a23, a24, a25, a26, a27, a28, a29, a30, a31, a32, a33, a34, a35, a36, a37, a38, a39, a40, a41, a42, a43, a44, a45, a46, a47, a48, hO, rfl⟩ hn he hr
  by_cases h : i < s.ft.l.length
  · have hx : s.ft.l[i]? = some s.ft.l[i] := List.getElem?_eq_getElem h
    generalize s.ft.l[i] = x at hx
    have hmem := List.mem_of_getElem? hx
    have hr0 : rdN (s.ft.l.flatMap Ft.c) (i * 5) 1 = some [.int .i64 x.id] := (rdN_flat Ft.c_len 0 1 hx (by omega)).trans rfl
    have hr1 : rdN (s.ft.l.flatMap Ft.c) (i * 5 + 1) 1 = some [.int .i64 x.kind] := (rdN_flat Ft.c_len 1 1 hx (by omega)).trans rfl
    have hr4 : rdN (s.ft.l.flatMap Ft.c) (i * 5 + 4) 1 = some [x.parts.v] := (rdN_flat Ft.c_len 4 1 hx (by omega)).trans rfl
    have hw : wrapI .i64 ((i : Int) + 1) = ((i + 1 : Nat) : Int) := wrap_succ (by have := s.ft.few; omega)
    have c1 := fun d out ownV own i => h1 x hmem m (by omega) d out ownV own i
    have c2 := fun d out ownV own i => h2 x hmem m (by omega) d out ownV own i
    simp only [iv_eq] at c1 c2
    have hul := usersL_le (s.ft.l.take i) shape id
    rw [List.length_take] at hul
    have hnx := users_next (shape := shape) (id := id) hx
    cases hb1 : shapeI x.kind == shape
    · simp only [userB, hb1, Bool.false_and, Bool.false_eq_true, if_false, List.append_nil] at hnx
      simp only [Wall, e_nilchk, e_pick, e_box, e_bslice, e_load, e_store, e_eqb, e_eqp, e_eqs, e_eqagg, e_conv, e_faddr, e_field, e_extract, e_call, e_mx, mkAt, List.replicate, List.cons_append, List.nil_append, List.append_nil, List.all_cons, List.all_nil, Bool.and_self, Bool.and_true, Bool.true_and, if_true, List.length_nil, List.length_cons, Nat.zero_add, Nat.add_zero, Nat.reduceAdd, Nat.reduceMul, Nat.reduceLeDiff, Nat.le_refl, and_self, and_true, true_and, List.getElem?_cons_zero, List.getElem?_cons_succ, look, mkv, Option.map_some, Option.map_none, Option.bind_some, Bool.false_eq_true, if_false, List.map_cons, List.map_nil, binI, intBin, isShift, unI, reduceCtorEq, fillI, Nat.reduceEqDiff, Int.ofNat_lt, decide_true, decide_false, beq_iff_eq, cellV, List.append_assoc, List.length_append, Bool.not_true, Bool.not_false, h, hz', iaddrV_sl s.ft h, hr0, hr1, hr4, c1, hb1, hw]
      exact hn _ (s.ft.l.length - (i + 1)) (by omega) ⟨i + 1, rfl, by omega, _, lv, _, _, _, _, _, _, _, _, _, _, _, _, _, _, _, _, _, _, _, _, _, _, _, _, _, _, _, _, _, _, _, _, _, _, _, _, _, _, _, _, _, _, _, by rw [hnx]; exact hO.more _, rfl⟩
    · cases hb2 : x.parts.l.contains id
      · simp only [userB, hb1, hb2, Bool.and_false, Bool.false_eq_true, if_false, List.append_nil] at hnx
        simp only [Wall, e_nilchk, e_pick, e_box, e_bslice, e_load, e_store, e_eqb, e_eqp, e_eqs, e_eqagg, e_conv, e_faddr, e_field, e_extract, e_call, e_mx, mkAt, List.replicate, List.cons_append, List.nil_append, List.append_nil, List.all_cons, List.all_nil, Bool.and_self, Bool.and_true, Bool.true_and, if_true, List.length_nil, List.length_cons, Nat.zero_add, Nat.add_zero, Nat.reduceAdd, Nat.reduceMul, Nat.reduceLeDiff, Nat.le_refl, and_self, and_true, true_and, List.getElem?_cons_zero, List.getElem?_cons_succ, look, mkv, Option.map_some, Option.map_none, Option.bind_some, Bool.false_eq_true, if_false, List.map_cons, List.map_nil, binI, intBin, isShift, unI, reduceCtorEq, fillI, Nat.reduceEqDiff, Int.ofNat_lt, decide_true, decide_false, beq_iff_eq, cellV, List.append_assoc, List.length_append, Bool.not_true, Bool.not_false, h, hz', iaddrV_sl s.ft h, hr0, hr1, hr4, c1, c2, hb1, hb2, hw]
        exact hn _ (s.ft.l.length - (i + 1)) (by omega) ⟨i + 1, rfl, by omega, _, lv, _, _, _, _, _, _, _, _, _, _, _, _, _, _, _, _, _, _, _, _, _, _, _, _, _, _, _, _, _, _, _, _, _, _, _, _, _, _, _, _, _, _, _, by rw [hnx]; exact hO.more _, rfl⟩
      · simp only [userB, hb1, hb2, Bool.and_self, if_true] at hnx
        obtain ⟨e, lv', J2, happ, hO2⟩ := ownI_app (n0 := J.length + 2 + 1) (slot := 0) (k := 2) (out := out) (J' := [.free, .free, .free]) (o := .cells [s.pl.ns.v, s.pl.as.v, s.pl.fs.v, s.ft.v]) (y := x.id) hO (by omega) (by omega) rfl
        simp only [Wall, e_nilchk, e_pick, e_box, e_bslice, e_load, e_store, e_eqb, e_eqp, e_eqs, e_eqagg, e_conv, e_faddr, e_field, e_extract, e_call, e_mx, mkAt, List.replicate, List.cons_append, List.nil_append, List.append_nil, List.all_cons, List.all_nil, Bool.and_self, Bool.and_true, Bool.true_and, if_true, List.length_nil, List.length_cons, Nat.zero_add, Nat.add_zero, Nat.reduceAdd, Nat.reduceMul, Nat.reduceLeDiff, Nat.le_refl, and_self, and_true, true_and, List.getElem?_cons_zero, List.getElem?_cons_succ, look, mkv, Option.map_some, Option.map_none, Option.bind_some, Bool.false_eq_true, if_false, List.map_cons, List.map_nil, binI, intBin, isShift, unI, reduceCtorEq, fillI, Nat.reduceEqDiff, Int.ofNat_lt, decide_true, decide_false, beq_iff_eq, cellV, List.append_assoc, List.length_append, Bool.not_true, Bool.not_false, h, hz', iaddrV_sl s.ft h, hr0, hr1, hr4, c1, c2, hb1, hb2, hw, rep, ev_append, app_src, app_ok, cellsI_i1, happ]
        exact hn _ (s.ft.l.length - (i + 1)) (by omega) ⟨i + 1, rfl, by omega, J2, lv', _, _, _, _, _, _, _, _, _, _, _, _, _, _, _, _, _, _, _, _, _, _, _, _, _, _, _, _, _, _, _, _, _, _, _, _, _, _, _, _, _, _, _, by rw [hnx]; exact hO2, rfl⟩
  · simp only [Wall, e_nilchk, e_pick, e_box, e_bslice, e_load, e_store, e_eqb, e_eqp, e_eqs, e_eqagg, e_conv, e_faddr, e_field, e_extract, e_call, e_mx, mkAt, List.replicate, List.cons_append, List.nil_append, List.append_nil, List.all_cons, List.all_nil, Bool.and_self, Bool.and_true, Bool.true_and, if_true, List.length_nil, List.length_cons, Nat.zero_add, Nat.add_zero, Nat.reduceAdd, Nat.reduceMul, Nat.reduceLeDiff, Nat.le_refl, and_self, and_true, true_and, List.getElem?_cons_zero, List.getElem?_cons_succ, look, mkv, Option.map_some, Option.map_none, Option.bind_some, Bool.false_eq_true, if_false, List.map_cons, List.map_nil, binI, intBin, isShift, unI, reduceCtorEq, fillI, Nat.reduceEqDiff, Int.ofNat_lt, decide_true, decide_false, beq_iff_eq, cellV, List.append_assoc, List.length_append, Bool.not_true, Bool.not_false, h]
    refine he _ _ ?_
    simp only [Wall, e_nilchk, e_pick, e_box, e_bslice, e_load, e_store, e_eqb, e_eqp, e_eqs, e_eqagg, e_conv, e_faddr, e_field, e_extract, e_call, e_mx, mkAt, List.replicate, List.cons_append, List.nil_append, List.append_nil, List.all_cons, List.all_nil, Bool.and_self, Bool.and_true, Bool.true_and, if_true, List.length_nil, List.length_cons, Nat.zero_add, Nat.add_zero, Nat.reduceAdd, Nat.reduceMul, Nat.reduceLeDiff, Nat.le_refl, and_self, and_true, true_and, List.getElem?_cons_zero, List.getElem?_cons_succ, look, mkv, Option.map_some, Option.map_none, Option.bind_some, Bool.false_eq_true, if_false, List.map_cons, List.map_nil, binI, intBin, isShift, unI, reduceCtorEq, fillI, Nat.reduceEqDiff, Int.ofNat_lt, decide_true, decide_false, beq_iff_eq, cellV, List.append_assoc, List.length_append, Bool.not_true, Bool.not_false]
    rw [List.take_of_length_le (by omega)] at hO
    exact ⟨_, rfl, ownI_fz (by omega) hlx hO⟩
theorem gives_rusers0 (hS : NoS S) (s : Sv) (id : Int) : Gives Ftab S 15 [.agg s.c, iv 0, iv id] .nilsl := by
  refine gives_fz (i := i15) (k := 1) (hS _ _ (by decide) (by decide) (by decide) (by decide)) rfl rfl fz_nilsl (s.ft.l.length + 3) (by omega) fun m hm d out => ?_
  have hz' : ((0 : Int) != 0) = false := by decide
  simp only [i15, Wall, e_nilchk, e_pick, e_box, e_bslice, e_load, e_store, e_eqb, e_eqp, e_eqs, e_eqagg, e_conv, e_faddr, e_field, e_extract, e_call, e_mx, mkAt, List.replicate, List.cons_append, List.nil_append, List.append_nil, List.all_cons, List.all_nil, Bool.and_self, Bool.and_true, Bool.true_and, if_true, List.length_nil, List.length_cons, Nat.zero_add, Nat.add_zero, Nat.reduceAdd, Nat.reduceMul, Nat.reduceLeDiff, Nat.le_refl, and_self, and_true, true_and, List.getElem?_cons_zero, List.getElem?_cons_succ, look, mkv, Option.map_some, Option.map_none, Option.bind_some, Bool.false_eq_true, if_false, List.map_cons, List.map_nil, binI, intBin, isShift, unI, reduceCtorEq, fillI, Nat.reduceEqDiff, Int.ofNat_lt, decide_true, decide_false, beq_iff_eq, cellV, List.append_assoc, List.length_append, Bool.not_true, Bool.not_false, Sv.c]
  refine ex_rounds (fun j st => ∃ i, j = s.ft.l.length - i ∧ i ≤ s.ft.l.length ∧ ∃ J a4 a5 a6 a9 a10 a11 a12 a13 a14 a15 a16 a17 a18 a19 a20 a21 a22 a23 a24 a25 a26 a27 a28 a29 a30 a31 a32 a33 a34 a35 a36 a37 a38 a39 a40 a41 a42 a43 a44 a45 a46 a47 a48, st = ⟨[.agg s.c, iv 0, iv id, .ptrM d 0 0, a4, a5, a6, .nilsl, iv i, a9, a10, a11, a12, a13, a14, a15, a16, a17, a18, a19, a20, a21, a22, a23, a24, a25, a26, a27, a28, a29, a30, a31, a32, a33, a34, a35, a36, a37, a38, a39, a40, a41, a42, a43, a44, a45, a46, a47, a48], .cells [s.pl.ns.v, s.pl.as.v, s.pl.fs.v, s.ft.v] :: J⟩) s.ft.l.length (by omega) ⟨0, by omega, by omega, [], _, _, _, _, _, _, _, _, _, _, _, _, _, _, _, _, _, _, _, _, _, _, _, _, _, _, _, _, _, _, _, _, _, _, _, _, _, _, _, _, _, _, _, rfl⟩ ?_
  rintro j st K ⟨i, rfl, hi, J, a4, a5, a6, a9, a10, a11, a12, a13, a14, a15, a16, a17, a18, a19, a20, a21, a22, a23, a24, a25, a26, a27, a28, a29, a30, a31, a32, a33, a34, a35, a36, a37, a38, a39, a40, a41, a42, a43, a44, a45, a46, a47, a48, rfl⟩ hn he hr
  by_cases h : i < s.ft.l.length
  · have hw : wrapI .i64 ((i : Int) + 1) = ((i + 1 : Nat) : Int) := wrap_succ (by have := s.ft.few; omega)
    simp only [Wall, e_nilchk, e_pick, e_box, e_bslice, e_load, e_store, e_eqb, e_eqp, e_eqs, e_eqagg, e_conv, e_faddr, e_field, e_extract, e_call, e_mx, mkAt, List.replicate, List.cons_append, List.nil_append, List.append_nil, List.all_cons, List.all_nil, Bool.and_self, Bool.and_true, Bool.true_and, if_true, List.length_nil, List.length_cons, Nat.zero_add, Nat.add_zero, Nat.reduceAdd, Nat.reduceMul, Nat.reduceLeDiff, Nat.le_refl, and_self, and_true, true_and, List.getElem?_cons_zero, List.getElem?_cons_succ, look, mkv, Option.map_some, Option.map_none, Option.bind_some, Bool.false_eq_true, if_false, List.map_cons, List.map_nil, binI, intBin, isShift, unI, reduceCtorEq, fillI, Nat.reduceEqDiff, Int.ofNat_lt, decide_true, decide_false, beq_iff_eq, cellV, List.append_assoc, List.length_append, Bool.not_true, Bool.not_false, h, hz', hw]
    exact hn _ (s.ft.l.length - (i + 1)) (by omega) ⟨i + 1, rfl, by omega, _, _, _, _, _, _, _, _, _, _, _, _, _, _, _, _, _, _, _, _, _, _, _, _, _, _, _, _, _, _, _, _, _, _, _, _, _, _, _, _, _, _, _, _, rfl⟩
  · simp only [Wall, e_nilchk, e_pick, e_box, e_bslice, e_load, e_store, e_eqb, e_eqp, e_eqs, e_eqagg, e_conv, e_faddr, e_field, e_extract, e_call, e_mx, mkAt, List.replicate, List.cons_append, List.nil_append, List.append_nil, List.all_cons, List.all_nil, Bool.and_self, Bool.and_true, Bool.true_and, if_true, List.length_nil, List.length_cons, Nat.zero_add, Nat.add_zero, Nat.reduceAdd, Nat.reduceMul, Nat.reduceLeDiff, Nat.le_refl, and_self, and_true, true_and, List.getElem?_cons_zero, List.getElem?_cons_succ, look, mkv, Option.map_some, Option.map_none, Option.bind_some, Bool.false_eq_true, if_false, List.map_cons, List.map_nil, binI, intBin, isShift, unI, reduceCtorEq, fillI, Nat.reduceEqDiff, Int.ofNat_lt, decide_true, decide_false, beq_iff_eq, cellV, List.append_assoc, List.length_append, Bool.not_true, Bool.not_false, h]
    refine he _ _ ?_
    simp only [Wall, e_nilchk, e_pick, e_box, e_bslice, e_load, e_store, e_eqb, e_eqp, e_eqs, e_eqagg, e_conv, e_faddr, e_field, e_extract, e_call, e_mx, mkAt, List.replicate, List.cons_append, List.nil_append, List.append_nil, List.all_cons, List.all_nil, Bool.and_self, Bool.and_true, Bool.true_and, if_true, List.length_nil, List.length_cons, Nat.zero_add, Nat.add_zero, Nat.reduceAdd, Nat.reduceMul, Nat.reduceLeDiff, Nat.le_refl, and_self, and_true, true_and, List.getElem?_cons_zero, List.getElem?_cons_succ, look, mkv, Option.map_some, Option.map_none, Option.bind_some, Bool.false_eq_true, if_false, List.map_cons, List.map_nil, binI, intBin, isShift, unI, reduceCtorEq, fillI, Nat.reduceEqDiff, Int.ofNat_lt, decide_true, decide_false, beq_iff_eq, cellV, List.append_assoc, List.length_append, Bool.not_true, Bool.not_false]
theorem gives_sameF (hS : NoS S) (f g : Ft) (h : f.id = g.id ∧ f.kind = g.kind ∧ f.cls = g.cls ∧ f.name = g.name ∧ f.parts.l = g.parts.l) : Gives Ftab S 10 [.agg f.c, .agg g.c] (.bool true) := by
  obtain ⟨N1, h1⟩ := gives_sameInts hS f.parts g.parts
  refine gives_fz (i := i10) (k := 1) (hS _ _ (by decide) (by decide) (by decide) (by decide)) rfl rfl fz_bool (N1 + 3) (by omega) fun m hm d out => ?_
  have c1 := fun d out ownV own i => h1 m (by omega) d out ownV own i
  have b1 : (f.parts.l == g.parts.l) = true := by simp [h.2.2.2.2]
  have b2 : (f.id == g.id) = true := by simp [h.1]
  have b3 : (f.kind == g.kind) = true := by simp [h.2.1]
  have b4 : (f.cls == g.cls) = true := by simp [h.2.2.1]
  have b5 : (f.name.1.toList == g.name.1.toList) = true := by simp [h.2.2.2.1]
  simp only [i10, Wall, e_nilchk, e_pick, e_box, e_bslice, e_load, e_store, e_eqb, e_eqp, e_eqs, e_eqagg, e_conv, e_faddr, e_field, e_extract, e_call, e_mx, mkAt, List.replicate, List.cons_append, List.nil_append, List.append_nil, List.all_cons, List.all_nil, Bool.and_self, Bool.and_true, Bool.true_and, if_true, List.length_nil, List.length_cons, Nat.zero_add, Nat.add_zero, Nat.reduceAdd, Nat.reduceMul, Nat.reduceLeDiff, Nat.le_refl, and_self, and_true, true_and, List.getElem?_cons_zero, List.getElem?_cons_succ, look, mkv, Option.map_some, Option.map_none, Option.bind_some, Bool.false_eq_true, if_false, List.map_cons, List.map_nil, binI, intBin, isShift, unI, reduceCtorEq, fillI, Nat.reduceEqDiff, Int.ofNat_lt, decide_true, decide_false, beq_iff_eq, cellV, List.append_assoc, List.length_append, Bool.not_true, Bool.not_false, Ft.c, c1, b1, b2, b3, b4, b5, strBin]
end
end Go.Proofs.YtbfljfjjnijigaaGreatDoor
end
section
namespace Go.Proofs.YtbfljfjjnijigaaGreatDoor
open Go Go.RowKit
set_option maxRecDepth 100000
structure Bx where
  a : Int
  b : Int
  c : Int
  e : Int
def Bx.r (x : Bx) : List IV := [.int .i64 x.a, .int .i64 x.b, .int .i64 x.c, .int .i64 x.e]
def stepB (x : Bx) (p : Pt) : Bx := ⟨if p.x < x.a then p.x else x.a, if p.y < x.b then p.y else x.b, if p.x > x.c then p.x else x.c, if p.y > x.e then p.y else x.e⟩
def startB (p : Pt) : Bx := ⟨p.x, p.y, p.x, p.y⟩
def boxL (p : Pt) (l : List Pt) : Bx := l.foldl stepB (startB p)
theorem box_next {p x : Pt} {l : List Pt} {i : Nat} (hx : l[i]? = some x) : boxL p (l.take (i + 1)) = stepB (boxL p (l.take i)) x := by
  unfold boxL
  rw [List.take_add_one, hx, Option.toList_some, List.foldl_append]
  rfl
theorem box_fz (x : Bx) : Fz (1 + 1) (.agg x.r) := fz_agg fun y hy => by
  simp only [Bx.r, List.mem_cons, List.not_mem_nil, or_false] at hy
  rcases hy with rfl | rfl | rfl | rfl <;> exact fz_int
section
variable {S : FuncId → List IV → Option IV}
theorem gives_ring (hS : NoS S) (q : SlOf 2 Pt.c) (p : Pt) (hp : q.l[0]? = some p) : Gives Ftab S 26 [q.v] (.agg (boxL p q.l).r) := by
  have hpos : 0 < q.l.length := (List.getElem?_eq_some_iff.1 hp).1
  refine gives_fz (i := i26) (hS _ _ (by decide) (by decide) (by decide) (by decide)) rfl rfl (box_fz _) (q.l.length + 5) (by omega) fun m hm d out => ?_
  have hne : (((q.l.length : Nat) : Int) == 0) = false := by rw [beq_eq_false_iff_ne]; omega
  have hr0 : rdN (q.l.flatMap Pt.c) (0 * 2) 1 = some [.int .i64 p.x] := (rdN_flat Pt.c_len 0 1 hp (by omega)).trans rfl
  have hr1 : rdN (q.l.flatMap Pt.c) (0 * 2 + 1) 1 = some [.int .i64 p.y] := (rdN_flat Pt.c_len 1 1 hp (by omega)).trans rfl
  have hia := fun own => iaddrV_sl (own := own) q (k := .i64) hpos
  simp only [Nat.zero_mul, Nat.zero_add] at hr0 hr1 hia
  have hia0 : ∀ own, iaddrV own 2 q.v (.int .i64 0) = some (.p, .ptrC (q.l.flatMap Pt.c) 0, own) := fun own => hia own
  simp only [i26, Wall, e_nilchk, e_pick, e_box, e_bslice, e_load, e_store, e_eqb, e_eqp, e_eqs, e_eqagg, e_conv, e_faddr, e_field, e_extract, e_call, e_mx, mkAt, List.replicate, List.cons_append, List.nil_append, List.append_nil, List.all_cons, List.all_nil, Bool.and_self, Bool.and_true, Bool.true_and, if_true, List.length_nil, List.length_cons, Nat.zero_add, Nat.add_zero, Nat.reduceAdd, Nat.reduceMul, Nat.reduceLeDiff, Nat.le_refl, and_self, and_true, true_and, List.getElem?_cons_zero, List.getElem?_cons_succ, look, mkv, Option.map_some, Option.map_none, Option.bind_some, Bool.false_eq_true, if_false, List.map_cons, List.map_nil, binI, intBin, isShift, unI, reduceCtorEq, fillI, Nat.reduceEqDiff, Int.ofNat_lt, decide_true, decide_false, beq_iff_eq, cellV, List.append_assoc, List.length_append, Bool.not_true, Bool.not_false, hne, hia0, hr0, hr1]
  refine ⟨rfl, ?_⟩
  simp only [Wall, e_nilchk, e_pick, e_box, e_bslice, e_load, e_store, e_eqb, e_eqp, e_eqs, e_eqagg, e_conv, e_faddr, e_field, e_extract, e_call, e_mx, mkAt, List.replicate, List.cons_append, List.nil_append, List.append_nil, List.all_cons, List.all_nil, Bool.and_self, Bool.and_true, Bool.true_and, if_true, List.length_nil, List.length_cons, Nat.zero_add, Nat.add_zero, Nat.reduceAdd, Nat.reduceMul, Nat.reduceLeDiff, Nat.le_refl, and_self, and_true, true_and, List.getElem?_cons_zero, List.getElem?_cons_succ, look, mkv, Option.map_some, Option.map_none, Option.bind_some, Bool.false_eq_true, if_false, List.map_cons, List.map_nil, binI, intBin, isShift, unI, reduceCtorEq, fillI, Nat.reduceEqDiff, Int.ofNat_lt, decide_true, decide_false, beq_iff_eq, cellV, List.append_assoc, List.length_append, Bool.not_true, Bool.not_false]
  refine ex_rounds (fun j st => ∃ i, j = q.l.length - i ∧ i ≤ q.l.length ∧ ∃ J a1 a3 a4 a5 a6 a7 a8 a9 a10 a11 a12 a13 a14 a15 a16 a17 a18 a19 a20 a21 a22 a23 a24 a25 a29 a30 a31 a32 a33 a34 a35 a36 a37 a38 a39 a40 a41 a42 a43 a44 a45 a46 a47 a48 a49 a50 a51 a52 a53 a54 a55 a56 a57, st = ⟨[q.v, a1, .ptrM d 0 0, a3, a4, a5, a6, a7, a8, a9, a10, a11, a12, a13, a14, a15, a16, a17, a18, a19, a20, a21, a22, a23, a24, a25, q.v, iv (q.l.length : Nat), iv i, a29, a30, a31, a32, a33, a34, a35, a36, a37, a38, a39, a40, a41, a42, a43, a44, a45, a46, a47, a48, a49, a50, a51, a52, a53, a54, a55, a56, a57], .cells (boxL p (q.l.take i)).r :: J⟩) q.l.length (by omega) ⟨0, by omega, by omega, [], _, _, _, _, _, _, _, _, _, _, _, _, _, _, _, _, _, _, _, _, _, _, _, _, _, _, _, _, _, _, _, _, _, _, _, _, _, _, _, _, _, _, _, _, _, _, _, _, _, _, _, _, _, rfl⟩ ?_
  rintro j st K ⟨i, rfl, hi, J, a1, a3, a4, a5, a6, a7, a8, a9, a10, a11, a12, a13, a14, a15, a16, a17, a18, a19, a20, a21, a22, a23, a24, a25, a29, a30, a31, a32, a33, a34, a35, a36, a37, a38, a39, a40, a41, a42, a43, a44, a45, a46, a47, a48, a49, a50, a51, a52, a53, a54, a55, a56, a57, rfl⟩ hn he hr
  by_cases h : i < q.l.length
  · have hx : q.l[i]? = some q.l[i] := List.getElem?_eq_getElem h
    generalize q.l[i] = x at hx
    have hrd : rdN (q.l.flatMap Pt.c) (i * 2) 2 = some x.c := (rdN_flat Pt.c_len 0 2 hx (by omega)).trans rfl
    have hw : wrapI .i64 ((i : Int) + 1) = ((i + 1 : Nat) : Int) := wrap_succ (by have := q.few; omega)
    have hnx := box_next (p := p) hx
    generalize boxL p (q.l.take i) = bx at hnx
    have hfin : ∀ J a1 a3 a4 a5 a6 a7 a8 a9 a10 a11 a12 a13 a14 a15 a16 a17 a18 a19 a20 a21 a22 a23 a24 a25 a29 a30 a31 a32 a33 a34 a35 a36 a37 a38 a39 a40 a41 a42 a43 a44 a45 a46 a47 a48 a49 a50 a51 a52 a53 a54 a55 a56 a57, K .normal ⟨[q.v, a1, .ptrM d 0 0, a3, a4, a5, a6, a7, a8, a9, a10, a11, a12, a13, a14, a15, a16, a17, a18, a19, a20, a21, a22, a23, a24, a25, q.v, iv (q.l.length : Nat), iv (i + 1 : Nat), a29, a30, a31, a32, a33, a34, a35, a36, a37, a38, a39, a40, a41, a42, a43, a44, a45, a46, a47, a48, a49, a50, a51, a52, a53, a54, a55, a56, a57], .cells (stepB bx x).r :: J⟩ := fun J a1 a3 a4 a5 a6 a7 a8 a9 a10 a11 a12 a13 a14 a15 a16 a17 a18 a19 a20 a21 a22 a23 a24 a25 a29 a30 a31 a32 a33 a34 a35 a36 a37 a38 a39 a40 a41 a42 a43 a44 a45 a46 a47 a48 a49 a50 a51 a52 a53 a54 a55 a56 a57 => hn _ (q.l.length - (i + 1)) (by omega) ⟨i + 1, rfl, by omega, J, a1, a3, a4, a5, a6, a7, a8, a9, a10, a11, a12, a13, a14, a15, a16, a17, a18, a19, a20, a21, a22, a23, a24, a25, a29, a30, a31, a32, a33, a34, a35, a36, a37, a38, a39, a40, a41, a42, a43, a44, a45, a46, a47, a48, a49, a50, a51, a52, a53, a54, a55, a56, a57, by rw [hnx]⟩
    simp only [Wall, e_nilchk, e_pick, e_box, e_bslice, e_load, e_store, e_eqb, e_eqp, e_eqs, e_eqagg, e_conv, e_faddr, e_field, e_extract, e_call, e_mx, mkAt, List.replicate, List.cons_append, List.nil_append, List.append_nil, List.all_cons, List.all_nil, Bool.and_self, Bool.and_true, Bool.true_and, if_true, List.length_nil, List.length_cons, Nat.zero_add, Nat.add_zero, Nat.reduceAdd, Nat.reduceMul, Nat.reduceLeDiff, Nat.le_refl, and_self, and_true, true_and, List.getElem?_cons_zero, List.getElem?_cons_succ, look, mkv, Option.map_some, Option.map_none, Option.bind_some, Bool.false_eq_true, if_false, List.map_cons, List.map_nil, binI, intBin, isShift, unI, reduceCtorEq, fillI, Nat.reduceEqDiff, Int.ofNat_lt, decide_true, decide_false, beq_iff_eq, cellV, List.append_assoc, List.length_append, Bool.not_true, Bool.not_false, h, iaddrV_sl q h, hrd, Pt.c, Bx.r]
    refine ⟨by simp [comm], ?_⟩
    simp only [Wall, e_nilchk, e_pick, e_box, e_bslice, e_load, e_store, e_eqb, e_eqp, e_eqs, e_eqagg, e_conv, e_faddr, e_field, e_extract, e_call, e_mx, mkAt, List.replicate, List.cons_append, List.nil_append, List.append_nil, List.all_cons, List.all_nil, Bool.and_self, Bool.and_true, Bool.true_and, if_true, List.length_nil, List.length_cons, Nat.zero_add, Nat.add_zero, Nat.reduceAdd, Nat.reduceMul, Nat.reduceLeDiff, Nat.le_refl, and_self, and_true, true_and, List.getElem?_cons_zero, List.getElem?_cons_succ, look, mkv, Option.map_some, Option.map_none, Option.bind_some, Bool.false_eq_true, if_false, List.map_cons, List.map_nil, binI, intBin, isShift, unI, reduceCtorEq, fillI, Nat.reduceEqDiff, Int.ofNat_lt, decide_true, decide_false, beq_iff_eq, cellV, List.append_assoc, List.length_append, Bool.not_true, Bool.not_false]
    refine ⟨by simp [comm], ?_⟩
    simp only [Wall, e_nilchk, e_pick, e_box, e_bslice, e_load, e_store, e_eqb, e_eqp, e_eqs, e_eqagg, e_conv, e_faddr, e_field, e_extract, e_call, e_mx, mkAt, List.replicate, List.cons_append, List.nil_append, List.append_nil, List.all_cons, List.all_nil, Bool.and_self, Bool.and_true, Bool.true_and, if_true, List.length_nil, List.length_cons, Nat.zero_add, Nat.add_zero, Nat.reduceAdd, Nat.reduceMul, Nat.reduceLeDiff, Nat.le_refl, and_self, and_true, true_and, List.getElem?_cons_zero, List.getElem?_cons_succ, look, mkv, Option.map_some, Option.map_none, Option.bind_some, Bool.false_eq_true, if_false, List.map_cons, List.map_nil, binI, intBin, isShift, unI, reduceCtorEq, fillI, Nat.reduceEqDiff, Int.ofNat_lt, decide_true, decide_false, beq_iff_eq, cellV, List.append_assoc, List.length_append, Bool.not_true, Bool.not_false, hw]
    exact hfin _ _ _ _ _ _ _ _ _ _ _ _ _ _ _ _ _ _ _ _ _ _ _ _ _ _ _ _ _ _ _ _ _ _ _ _ _ _ _ _ _ _ _ _ _ _ _ _ _ _ _ _ _ _
  · simp only [Wall, e_nilchk, e_pick, e_box, e_bslice, e_load, e_store, e_eqb, e_eqp, e_eqs, e_eqagg, e_conv, e_faddr, e_field, e_extract, e_call, e_mx, mkAt, List.replicate, List.cons_append, List.nil_append, List.append_nil, List.all_cons, List.all_nil, Bool.and_self, Bool.and_true, Bool.true_and, if_true, List.length_nil, List.length_cons, Nat.zero_add, Nat.add_zero, Nat.reduceAdd, Nat.reduceMul, Nat.reduceLeDiff, Nat.le_refl, and_self, and_true, true_and, List.getElem?_cons_zero, List.getElem?_cons_succ, look, mkv, Option.map_some, Option.map_none, Option.bind_some, Bool.false_eq_true, if_false, List.map_cons, List.map_nil, binI, intBin, isShift, unI, reduceCtorEq, fillI, Nat.reduceEqDiff, Int.ofNat_lt, decide_true, decide_false, beq_iff_eq, cellV, List.append_assoc, List.length_append, Bool.not_true, Bool.not_false, h, Bx.r]
    refine he _ _ ?_
    rw [List.take_of_length_le (by omega)]
    simp only [Wall, e_nilchk, e_pick, e_box, e_bslice, e_load, e_store, e_eqb, e_eqp, e_eqs, e_eqagg, e_conv, e_faddr, e_field, e_extract, e_call, e_mx, mkAt, List.replicate, List.cons_append, List.nil_append, List.append_nil, List.all_cons, List.all_nil, Bool.and_self, Bool.and_true, Bool.true_and, if_true, List.length_nil, List.length_cons, Nat.zero_add, Nat.add_zero, Nat.reduceAdd, Nat.reduceMul, Nat.reduceLeDiff, Nat.le_refl, and_self, and_true, true_and, List.getElem?_cons_zero, List.getElem?_cons_succ, look, mkv, Option.map_some, Option.map_none, Option.bind_some, Bool.false_eq_true, if_false, List.map_cons, List.map_nil, binI, intBin, isShift, unI, reduceCtorEq, fillI, Nat.reduceEqDiff, Int.ofNat_lt, decide_true, decide_false, beq_iff_eq, cellV, List.append_assoc, List.length_append, Bool.not_true, Bool.not_false, Bx.r]
end
end Go.Proofs.YtbfljfjjnijigaaGreatDoor
end
