/-
  Lists of entries: those of the call's own; the law's bound (light); R.Same.
-/
import Derived.Test.YtcbobceggjndlaaGreatDoorGzD
import Derived.Deep.AppendLies
import Derived.Laws.AppendOwnNone
set_option linter.unusedVariables false
set_option linter.unusedSimpArgs false
namespace Go.Proofs.YtcbobceggjndlaaGreatDoor
open Go.RowKit

def entC (x : Ent) : List Value := [.string x.name, .int .i64 x.feat, .int .i64 x.sheet, .string x.sq]
/-- The slice value v is the call's own (from block B on) and holds the entries es. -/
def OE (w : World) (B : Nat) (v : Value) (es : List Ent) : Prop := w.ownsRow B 29 4 v es.length (es.flatMap entC)
theorem ent_info : (Tryz.prog.info? 29).map (fun i => (i.zero, i.size, i.bytes)) = some (some (.agg #[.string ⟨#[]⟩, .int .i64 0, .int .i64 0, .string ⟨#[]⟩]), 4, 48) := by kernel_rfl
theorem OE.nil (w : World) (B : Nat) : OE w B (.slice none 0 0) [] := ⟨by simp, Or.inl ⟨rfl, rfl⟩⟩
theorem OE.own {w : World} {B : Nat} {v : Value} {es : List Ent} (h : OE w B v es) : ∀ k, v.ownBlock = some k → B ≤ k := by
  obtain ⟨u1, u2⟩ := h
  intro k hk
  rcases u2 with ⟨rfl, _⟩ | ⟨g', cap', cur, rfl, e2, _⟩
  · cases hk
  · simp only [Value.ownBlock, Option.some.injEq] at hk
    omega
theorem OE.below {w w' : World} {B D : Nat} {v : Value} {es : List Ent} (h : OE w B v es) (hb : Below D w w') (hD : w.heap.size ≤ D) : OE w' B v es := by
  obtain ⟨h1, h2⟩ := h
  refine ⟨h1, ?_⟩
  rcases h2 with h2 | ⟨g, cap, cur, hv, hg, hh, r⟩
  · exact Or.inl h2
  · exact Or.inr ⟨g, cap, cur, hv, hg, (hb.block g (Nat.lt_of_lt_of_le (Array.getElem?_eq_some_iff.1 hh).1 hD)).trans hh, r⟩
theorem OE.mono {w : World} {B B' : Nat} {v : Value} {es : List Ent} (h : OE w B v es) (hB : B' ≤ B) : OE w B' v es := by
  obtain ⟨h1, h2⟩ := h
  refine ⟨h1, ?_⟩
  rcases h2 with h2 | ⟨g, cap, cur, hv, hg, r⟩
  · exact Or.inl h2
  · exact Or.inr ⟨g, cap, cur, hv, by omega, r⟩
theorem grown_below_own {a w : World} {B : Nat} {v : Value} (h : a.grownBy w v.ownBlock) (hv : ∀ k, v.ownBlock = some k → B ≤ k) (hs : B ≤ a.heap.size) : Below B a w :=
  ⟨h.os, h.tape, h.output, h.size, fun k hk => h.block k (by omega) (fun e => by have := hv k e.symm; omega)⟩
theorem ents_at (es : List Ent) : ∀ (j i : Nat), j < es.length → i < 4 → (es.flatMap entC)[j * 4 + i]? = (entC (en es j))[i]? := by
  induction es with
  | nil => intro j i hj; simp at hj
  | cons b r ih =>
    intro j i hj hi
    rw [List.flatMap_cons]
    cases j with
    | zero => rw [List.getElem?_append_left (by simp [entC]; omega)]; simp [en]
    | succ j =>
      rw [List.getElem?_append_right (by simp [entC]; omega)]
      have := ih j i (by simpa using hj) hi
      simp only [entC, List.length_cons, List.length_nil] at *
      rw [show (j + 1) * 4 + i - (0 + 1 + 1 + 1 + 1) = j * 4 + i by omega, this]
      simp [en]
theorem ents_len (es : List Ent) : (es.flatMap entC).length = es.length * 4 := by
  induction es with
  | nil => rfl
  | cons b r ih => rw [List.flatMap_cons, List.length_append, ih]; simp [entC]; omega
theorem ents_one (es : List Ent) : ∀ u ∈ es.flatMap entC, u.oneCell' = true := by
  intro u hu
  rw [List.mem_flatMap] at hu
  obtain ⟨x, _, hx⟩ := hu
  simp [entC] at hx
  rcases hx with rfl | rfl | rfl | rfl <;> rfl
theorem OE.form {w : World} {B : Nat} {v : Value} {es : List Ent} (h : OE w B v es) : ∃ A c, v = .slice A es.length c ∧ es.length ≤ c ∧ RE w A es := by
  obtain ⟨h1, h2⟩ := h
  rcases h2 with ⟨rfl, hn⟩ | ⟨g, cap, cur, rfl, hg, hh, hn, hm, hsz, hcur⟩
  · exact ⟨none, 0, by rw [hn], by omega, fun k hk => absurd hk (by omega)⟩
  · refine ⟨_, cap, rfl, hn, fun k hk => ⟨g, 0, rfl, (Array.getElem?_eq_some_iff.1 hh).1, fun j hj => ?_⟩⟩
    have e : ∀ i, i < 4 → w.cell? ⟨g, 0 + j * 4 + i, none⟩ = (entC (en es j))[i]? := fun i hi => by
      have h3 : (cur.toList.take (es.length * 4))[j * 4 + i]? = (entC (en es j))[i]? := by rw [hcur]; exact ents_at es j i hj hi
      rw [List.getElem?_take, if_pos (by omega)] at h3
      simp [World.cell?, hh]
      simpa using h3
    have e0 := e 0 (by omega)
    have e1 := e 1 (by omega)
    have e2 := e 2 (by omega)
    have e3 := e 3 (by omega)
    refine ⟨?_, ?_, ?_, ?_⟩
    · simpa [entC] using e0
    · simpa [entC] using e1
    · simpa [entC] using e2
    · simpa [entC] using e3
/-- The cells of a row of entries. -/
theorem RE.cells {w : World} {b off : Nat} {es : List Ent} (h : ∀ j, j < es.length → EntAt w b (off + j * 4) (en es j)) : ∀ j u, (es.flatMap entC)[j]? = some u → w.cell? ((⟨b, off, none⟩ : Addr).add j) = some u := by
  intro j u hu
  have hl : j < es.length * 4 := by
    have := (List.getElem?_eq_some_iff.1 hu).1
    rwa [ents_len] at this
  have e : j = j / 4 * 4 + j % 4 := by omega
  have h1 := ents_at es (j / 4) (j % 4) (by omega) (by omega)
  rw [← e, hu] at h1
  obtain ⟨c0, c1, c2, c3⟩ := h (j / 4) (by omega)
  have h4 : j % 4 < 4 := by omega
  have e2 : off + j = off + j / 4 * 4 + j % 4 := by omega
  have e3 : (⟨b, off, none⟩ : Addr).add j = ⟨b, off + j, none⟩ := by simp [Addr.add]
  rw [e3, e2]
  revert h1
  generalize j % 4 = i at *
  match i, h4 with
  | 0, _ => intro h1; simp [entC] at h1; rw [h1]; exact c0
  | 1, _ => intro h1; simp [entC] at h1; rw [h1]; exact c1
  | 2, _ => intro h1; simp [entC] at h1; rw [h1]; exact c2
  | 3, _ => intro h1; simp [entC] at h1; rw [h1]; exact c3
/-- 'append(xs, ys...)', xs the call's own, ys whatever row. -/
theorem append_ents {ops : Array Oper} {rest : List Oper} {o : Oper} {a : Act} {Q : Exit → Act → World → Prop} (hgd : o.guard = none) (s x : Operand)
    (ho : o.op = .call { callee := .builtin .append, args := #[s, x], argTypes := #[22, 22] })
    (W : World) (base : Nat) (v : Value) (xs ys : List Ent) (hs : a.eval s = v) (hown : OE W base v xs) (A : Option Addr) (m c : Nat) (hx : a.eval x = .slice A m c) (hm : ys.length = m) (hA : RE W A ys) (hnil : A = none → m = 0 ∧ c = 0)
    (hlen : (xs.length + m) * 48 ≤ 140737488355328) (hbase : base ≤ W.heap.size)
    (h : ∀ v' w', OE w' base v' (xs ++ ys) → Below base W w' → W.grownBy w' v.ownBlock → wpList Tryz.prog ops Q rest (a.put o.dst v') w') :
    wpList Tryz.prog ops Q (o :: rest) a W := by
  obtain ⟨i0, hi, hz0, hz1, hz2⟩ := info_parts ent_info
  cases A with
  | none =>
    obtain ⟨rfl, rfl⟩ := hnil rfl
    obtain rfl : ys = [] := List.length_eq_zero_iff.1 hm
    refine wpList_append_own_none hgd s x 22 ho base 29 i0 4 Tryz.underlying22 hi v xs.length (xs.flatMap entC) hs hown hx ?_
    exact h v W (by simpa using hown) (Below.refl _ _) ⟨rfl, rfl, rfl, Nat.le_refl _, fun _ _ _ => rfl⟩
  | some ad =>
    have hn : ∀ j u, (ys.flatMap entC)[j]? = some u → W.cell? (ad.add j) = some u := by
      intro j u hu
      have hl := (List.getElem?_eq_some_iff.1 hu).1
      rw [ents_len] at hl
      obtain ⟨b, off, e, _, hc⟩ := hA 0 (by omega)
      cases e
      exact RE.cells hc j u hu
    refine wpList_append_own _ hgd s x 22 ho base 29 i0 (.agg #[.string ⟨#[]⟩, .int .i64 0, .int .i64 0, .string ⟨#[]⟩]) 4 48 Tryz.underlying22 hi hz0 hz1 hz2 rfl (by decide) v xs.length (xs.flatMap entC) hs hown ad m c (ys.flatMap entC) hx (by rw [ents_len, hm]) hn (ents_one ys) (by unfold maxLen; omega) hlen hbase ?_
    intro v' w' hown' hg _
    refine h v' w' ?_ (grown_below_own hg hown.own hbase) hg
    unfold OE
    rw [List.length_append, hm, List.flatMap_append]
    exact hown'
/-- 'xs = append(xs, y)', xs the call's own: the new element lies in a block of its own first. -/
theorem append_ent {ops : Array Oper} {rest : List Oper} {o : Oper} {a : Act} {Q : Exit → Act → World → Prop} (hgd : o.guard = none) (s x : Operand)
    (ho : o.op = .call { callee := .builtin .append, args := #[s, x], argTypes := #[22, 22] })
    (W : World) (base : Nat) (v : Value) (xs : List Ent) (y : Ent) (hs : a.eval s = v) (hown : OE W base v xs) (H : Nat) (hH : W.heap.size = H) (hx : a.eval x = .slice (some ⟨H, 0, none⟩) 1 1)
    (hlen : xs.length ≤ 1000000000000) (hbase : base ≤ W.heap.size)
    (h : ∀ v' w', OE w' base v' (xs ++ [y]) → Below base W w' → W.grownBy w' v.ownBlock → wpList Tryz.prog ops Q rest (a.put o.dst v') w') :
    wpList Tryz.prog ops Q (o :: rest) a (W.alloc (.cells #[.string y.name, .int .i64 y.feat, .int .i64 y.sheet, .string y.sq] 29)) := by
  subst hH
  have hb := (Below.refl W.heap.size W).alloc (Nat.le_refl _) (.cells #[.string y.name, .int .i64 y.feat, .int .i64 y.sheet, .string y.sq] 29)
  have k0 := Bk.new W #[.string y.name, .int .i64 y.feat, .int .i64 y.sheet, .string y.sq] 29
  refine append_ents hgd s x ho _ base v xs [y] hs (hown.below hb (Nat.le_refl _)) (some ⟨W.heap.size, 0, none⟩) 1 1 hx rfl ?_ (fun h => by cases h) (by omega) (by simp; omega) ?_
  · intro k hk
    refine ⟨W.heap.size, 0, rfl, by simp, fun j hj => ?_⟩
    simp at hj
    subst hj
    exact ⟨k0.cell 0, k0.cell 1, k0.cell 2, k0.cell 3⟩
  · intro v' w' ho' hb' hg'
    have hsz : W.heap.size ≤ w'.heap.size := Nat.le_trans (by simp) hg'.size
    have hg2 : W.grownBy w' v.ownBlock := ⟨hg'.os, hg'.tape, hg'.output, hsz, fun k hk hne => (hg'.block k (by simp; omega) hne).trans (Below.heap_alloc _ _ _ hk)⟩
    exact h v' w' ho' (grown_below_own hg2 hown.own hbase) hg2

def Gz.light (es : List Ent) : Prop := es.length ≤ 30 ∧ ∀ j, j < es.length → (en es j).name.size ≤ 100 ∧ (en es j).sq.size ≤ 100
instance (es : List Ent) : Decidable (Gz.light es) := by unfold Gz.light; infer_instance
theorem OE.fresh (w : World) : OE (w.alloc (.cells #[] 29)) w.heap.size (.slice (some ⟨w.heap.size, 0, none⟩) 0 0) [] :=
  ⟨by simp, Or.inr ⟨w.heap.size, 0, #[], rfl, Nat.le_refl _, heap_alloc_new w _, Nat.le_refl _, by simp, by simp, by simp⟩⟩
set_option maxHeartbeats 8000000 in
theorem light_any (A : Option Addr) (c n : Nat) (es : List Ent) (w : World) (hn : es.length = n) (hx : n * 48 ≤ 140737488355328) (hA : RE w A es) (hnil : A = none → n = 0 ∧ c = 0) :
    Calls Tryz.prog 4 #[.slice A n c, .slice none 0 0] w fun e w' => e = .returned (.bool (decide (Gz.light es))) ∧ Below w.heap.size w w' := by
  have HA := Lib.hid hA
  have HN := Lib.hid hnil
  clear hA hnil
  go_enter Tryz.func4, Tryz.ntmps4
  go_upto_region 2 with (at_builtin; first | (refine append_ents rfl _ _ rfl _ w.heap.size (.slice (some ⟨w.heap.size, 0, none⟩) 0 0) [] es rfl (OE.fresh w) A n c rfl hn (HA.out.below ((Below.refl _ _).alloc (Nat.le_refl _) _)) HN.out (by simp; omega) (by simp) ?_; intro v1 w1 ho1 hb1 hg1) | (refine append_ents rfl _ _ rfl _ w.heap.size v1 es [] rfl ho1 none 0 0 rfl rfl (fun k hk => absurd hk (by simp)) (fun _ => ⟨rfl, rfl⟩) (by simp; omega) (Nat.le_trans (by simp) hg1.size) ?_; intro v2 w2 ho2 hb2 hg2; rw [List.append_nil] at ho2))
  have hb02 : Below w.heap.size w w2 := ((Below.refl _ _).alloc (Nat.le_refl _) _).trans (hb1.trans hb2)
  by_cases h30 : n ≤ 30
  rotate_left
  · have HF := Lib.hid (show decide (Gz.light es) = false from decide_eq_false (fun h => h30 (by rw [← hn]; exact h.1)))
    have y1 : (30 : Int) < n := by omega
    go_wp2_with fail
    go_ret
    exact ⟨ret_bool HF.out.symm, hb02⟩
  obtain ⟨B, d, rfl, hd, hR⟩ := ho2.form
  have HO := Lib.hid ho2
  clear ho2 ho1 hb1 hb2 hg1 hg2
  rw [hn]
  go_wp2_with fail
  go_loop [6] (fun iv => ∃ i : Nat, iv = .int .i64 i ∧ i ≤ n ∧ Hid (∀ j, j < i → (en es j).name.size ≤ 100 ∧ (en es j).sq.size ≤ 100)) (fun iv => n - (intOf iv).toNat)
  case atStart => exact ⟨0, rfl, by omega, fun j hj => absurd hj (by omega)⟩
  case round =>
    obtain ⟨i, rfl, hi, hall⟩ := hrel
    by_cases hlt : i < n
    · obtain ⟨b1, o1, rfl, hbb1, hc1⟩ := hR i (by omega)
      obtain ⟨d0, d1, d2, d3⟩ := hc1 i (by omega)
      clear hc1 hR
      by_cases q1 : (en es i).name.size ≤ 100
      rotate_left
      · have HF := Lib.hid (show decide (Gz.light es) = false from decide_eq_false (fun h => q1 (h.2 i (by omega)).1))
        have y1 : (100 : Int) < (en es i).name.size := by omega
        go_wp2_with fail
        go_ret
        exact ⟨ret_bool HF.out.symm, hb02⟩
      by_cases q2 : (en es i).sq.size ≤ 100
      rotate_left
      · have HF := Lib.hid (show decide (Gz.light es) = false from decide_eq_false (fun h => q2 (h.2 i (by omega)).2))
        have y1 : (100 : Int) < (en es i).sq.size := by omega
        go_wp2_with fail
        go_ret
        exact ⟨ret_bool HF.out.symm, hb02⟩
      have HN2 := Lib.hid (And.intro q1 q2)
      go_wp2_with fail
      go_round
      case rel => exact ⟨i + 1, by go_num, by omega, all_snoc hall.out HN2.out⟩
      case measure => simp [intOf]; omega
    · have HF := Lib.hid (show decide (Gz.light es) = true from decide_eq_true ⟨by omega, fun j hj => hall.out j (by omega)⟩)
      go_wp2_with fail
      go_ret
      exact ⟨ret_bool HF.out.symm, hb02⟩
/-- Equality of entries, in Go's own terms. -/
theorem Ent.ext_iff' {x y : Ent} : x = y ↔ x.name = y.name ∧ x.feat = y.feat ∧ x.sheet = y.sheet ∧ x.sq = y.sq := by
  cases x; cases y; simp
set_option maxHeartbeats 8000000 in
theorem same52_eq (A B : Option Addr) (c d n : Nat) (es : List Ent) (w : World) (hn : es.length = n) (hx : n ≤ 1000000000000) (hA : RE w A es) (hB : RE w B es) :
    Calls Tryz.prog 9 #[.slice A n c, .slice B n d] w fun e w' => e = .returned (.bool true) ∧ Below w.heap.size w w' := by
  go_enter Tryz.func9, Tryz.ntmps9
  go_wp2_with fail
  go_loopw [5] (fun iv wr => ∃ i : Nat, iv = .int .i64 i ∧ i ≤ n ∧ Below w.heap.size w wr) (fun iv _ => n - (intOf iv).toNat)
  case atStart => exact ⟨0, rfl, by omega, Below.refl _ _⟩
  case round =>
    obtain ⟨i, rfl, hi, hbw⟩ := hrel
    by_cases hlt : i < n
    · obtain ⟨b1, o1, rfl, hbb1, hc1⟩ := hA i (by omega)
      obtain ⟨d0, d1, d2, d3⟩ := (hc1 i (by omega)).below hbw hbb1
      obtain ⟨b2, o2, rfl, hbb2, hc2⟩ := hB i (by omega)
      obtain ⟨e0, e1, e2, e3⟩ := (hc2 i (by omega)).below hbw hbb2
      clear hc1 hA hc2 hB
      have x0 : (0 : Int) ≤ i := by omega
      have x1 : (i : Int) < n := by omega
      go_wp2_with fail
      go_region
      all_goals
        go_wp2_with fail
        go_roundw
        case rel => exact ⟨i + 1, by go_num, by omega, hbw.drew⟩
        case measure => simp [intOf]; omega
    · go_wp2_with fail
      go_ret
      exact ⟨rfl, hbw⟩
end Go.Proofs.YtcbobceggjndlaaGreatDoor
