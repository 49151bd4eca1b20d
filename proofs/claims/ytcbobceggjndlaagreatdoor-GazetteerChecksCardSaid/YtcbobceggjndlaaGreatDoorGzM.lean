/-
  gazetteer.Find and gazetteer.Without.
-/
import Derived.Test.YtcbobceggjndlaaGreatDoorGzK
import Derived.Test.YtcbobceggjndlaaGreatDoorGzL
set_option linter.unusedVariables false
set_option linter.unusedSimpArgs false
namespace Go.Proofs.YtcbobceggjndlaaGreatDoor
open Go.RowKit Go.Shelf
attribute [local go_sem] Oper.semAt_some

theorem KpW.t {n₀ b1 b2 : Nat} : ∀ {A B C : World}, KpW n₀ b1 b2 A B → KpW n₀ b1 b2 B C → KpW n₀ b1 b2 A C := fun h k => h.trans k
theorem KpW.b {n₀ b1 b2 : Nat} {w : World} (h : n₀ ≤ w.heap.size) (h1 : b1 < w.heap.size) (h2 : b2 < w.heap.size) : ∀ (W : World) (l : Nat) (o o' : Obj), w.heap.size ≤ l → W.heap[l]? = some o → o.isCells = false → o.isWalk = false → KpW n₀ b1 b2 W (W.putObj l o') :=
  fun W l o o' hl ho k1 k2 => ⟨belowK_b h W l o o' hl ho k1 k2, World.putObj_heap_other (by omega), World.putObj_heap_other (by omega)⟩
theorem Bk.nc {A B : World} {row : Option Nat} {b : Nat} {t : TypeId} {cs : Array Value} (h : Bk A b t cs) (hg : A.grownBy B row) (hr : ∀ r, row = some r → ∃ o : Obj, A.heap[r]? = some o ∧ o.isCells = false) : Bk B b t cs :=
  (hg.block b h.lt (fun e => by
    obtain ⟨o, ho, hc⟩ := hr b e.symm
    unfold Bk at h
    rw [h] at ho
    injection ho with ho
    subst ho
    cases hc)).trans h
theorem OE.nc {A W : World} {row : Option Nat} {B : Nat} {v : Value} {es : List Ent} (h : OE A B v es) (hg : A.grownBy W row) (hr : ∀ r, row = some r → ∃ o : Obj, A.heap[r]? = some o ∧ o.isCells = false) : OE W B v es := by
  obtain ⟨h1, h2⟩ := h
  refine ⟨h1, ?_⟩
  rcases h2 with h2 | ⟨g, cap, cur, hv, hgb, hh, r⟩
  · exact Or.inl h2
  · exact Or.inr ⟨g, cap, cur, hv, hgb, Bk.nc (A := A) hh hg hr, r⟩
/-- 'xs = append(xs, y)' in a round, xs the call's own. -/
theorem append_entIn {F : Fence} {n : Nat} {ops : Array Oper} {rest : List Oper} {o : Oper} {a : Act} {Q : Exit → Act → World → Prop} (hgd : o.guard = none) (s x : Operand)
    (ho : o.op = .call { callee := .builtin .append, args := #[s, x], argTypes := #[22, 22] })
    (W : World) (base : Nat) (v : Value) (xs : List Ent) (y : Ent) (hs : a.eval s = v) (hown : OE W base v xs) (hx : a.eval x = .slice (some ⟨W.heap.size, 0, none⟩) 1 1)
    (hlen : xs.length ≤ 1000000000000) (hbase : base ≤ W.heap.size)
    (h : ∀ v' w', OE w' base v' (xs ++ [y]) → W.grownBy w' v.ownBlock → wpListIn F n Tryz.prog ops Q rest (a.put o.dst v') w') :
    wpListIn F n Tryz.prog ops Q (o :: rest) a (W.alloc (.cells #[.string y.name, .int .i64 y.feat, .int .i64 y.sheet, .string y.sq] 29)) := by
  obtain ⟨i0, hi, hz0, hz1, hz2⟩ := info_parts ent_info
  have hb := (Below.refl W.heap.size W).alloc (Nat.le_refl _) (.cells #[.string y.name, .int .i64 y.feat, .int .i64 y.sheet, .string y.sq] 29)
  have k0 := Bk.new W #[.string y.name, .int .i64 y.feat, .int .i64 y.sheet, .string y.sq] 29
  have hown2 := hown.below hb (Nat.le_refl _)
  refine wpListIn_append_own _ hgd s x 22 ho base 29 i0 (.agg #[.string ⟨#[]⟩, .int .i64 0, .int .i64 0, .string ⟨#[]⟩]) 4 48 Tryz.underlying22 hi hz0 hz1 hz2 rfl (by decide) v xs.length (xs.flatMap entC) hs hown2 ⟨W.heap.size, 0, none⟩ 1 1 (entC y) hx rfl ?_ (entC_one y) (by unfold maxLen; omega) (by omega) (by simp; omega) ?_
  · intro j u hu
    have hj := (List.getElem?_eq_some_iff.1 hu).1
    rw [entC_len] at hj
    have e3 : (⟨W.heap.size, 0, none⟩ : Addr).add j = ⟨W.heap.size, j, none⟩ := by simp [Addr.add]; omega
    rw [e3, k0.cell, ← hu]
    match j, hj with
    | 0, _ => rfl
    | 1, _ => rfl
    | 2, _ => rfl
    | 3, _ => rfl
  · intro v' w' hown' hg' _
    have hsz : W.heap.size ≤ w'.heap.size := Nat.le_trans (by simp) hg'.size
    refine h v' w' ?_ ⟨hg'.os, hg'.tape, hg'.output, hsz, fun k hk hne => (hg'.block k (by simp; omega) hne).trans (Below.heap_alloc _ _ _ hk)⟩
    unfold OE
    rw [List.length_append, List.flatMap_append]
    simpa using hown'
set_option maxHeartbeats 4000000 in
theorem findL_any (x : Ent) (b : Nat) (p : ByteArray) (w : World) (ht : Gl.Tab w) (hm : MaxOk w) (hb : b < w.heap.size) (hp : w.cell? ⟨b, 0, none⟩ = some (.string p)) (h1 : x.name.size ≤ 1000000000000) (h2 : p.size ≤ 1000000000000) :
    Calls Tryz.prog 28 #[entV x, .pointer (some ⟨b, 0, none⟩)] w fun e w' => e = .returned (.bool (Nm.begins x.name.data.toList p.data.toList)) ∧ Below w.heap.size w w' := by
  have hal : Below w.heap.size w (w.alloc (.cells #[.string x.name, .int .i64 x.feat, .int .i64 x.sheet, .string x.sq] 29)) := (Below.refl _ _).alloc (Nat.le_refl _) _
  have HT := Lib.hid (ht.below hal (Nat.le_refl _))
  have HM := Lib.hid (hm.below hal (Nat.le_refl _))
  clear ht hm
  unfold entV
  go_enter Tryz.func28, Tryz.ntmps28
  go_wp2_with (go_at_call 29; refine (nbegins_any _ _ _ HT.out HM.out h1 h2).mono ?_)
  first | rintro e w1 rfl hb1 | rintro e w1 ⟨rfl, hb1⟩
  go_wp2_with fail
  go_ret
  exact ⟨rfl, hal.trans (hb1.mono (by simp))⟩
/-- The sheets do not hold the entry's one. -/
def Gz.other (xs : List Int) (x : Ent) : Bool := !decide (x.sheet ∈ xs)
set_option maxHeartbeats 4000000 in
theorem withoutL_any (x : Ent) (b g off c : Nat) (xs : List Int) (w : World) (hb : b < w.heap.size) (hg : g < w.heap.size) (hp : w.cell? ⟨b, 0, none⟩ = some (.slice (some ⟨g, off, none⟩) xs.length c)) (hxs : ∀ j, j < xs.length → w.cell? ⟨g, off + j, none⟩ = some (.int .i64 (xs.getD j 0))) (h1 : xs.length ≤ 1000000000000) :
    Calls Tryz.prog 25 #[entV x, .pointer (some ⟨b, 0, none⟩)] w fun e w' => e = .returned (.bool (Gz.other xs x)) ∧ Below w.heap.size w w' := by
  have hal : Below w.heap.size w (w.alloc (.cells #[.string x.name, .int .i64 x.feat, .int .i64 x.sheet, .string x.sq] 29)) := (Below.refl _ _).alloc (Nat.le_refl _) _
  have HX : Hid (∀ j, j < xs.length → (w.alloc (.cells #[.string x.name, .int .i64 x.feat, .int .i64 x.sheet, .string x.sq] 29)).cell? ⟨g, off + j, none⟩ = some (.int .i64 (xs.getD j 0))) := Lib.hid (fun j hj => (hal.cell (p := ⟨g, off + j, none⟩) hg).trans (hxs j hj))
  clear hxs
  unfold entV
  go_enter Tryz.func25, Tryz.ntmps25
  go_wp2_with (go_at_call 26; refine (Tryz.slices_Contains_int g off xs.length c xs x.sheet _ (Nat.le_refl _) (by omega) HX.out).mono ?_; rintro e w1 ⟨rfl, rfl⟩)
  go_ret
  exact ⟨rfl, hal⟩
/-- What lies in memory while entries are collected. -/
structure Col (w : World) (A : Option Addr) (n c : Nat) (bx : Value) (tb : TypeId) (f : Value) (W : World) : Prop where
  bx : Bk W w.heap.size tb #[bx]
  fst : Bk W (w.heap.size + 2) 22 #[.slice A n c]
  snd : Bk W (w.heap.size + 3) 70 #[f]
  old : Below w.heap.size w W
/-- The result so far. -/
def ColI (w : World) (es : List Ent) (pre : List (Fin es.length)) (W : World) : Prop :=
  ∃ v, Bk W (w.heap.size + 1) 22 #[v] ∧ OE W (w.heap.size + 4) v (pre.map fun i : Fin es.length => en es i) ∧ Below w.heap.size w W ∧ w.heap.size + 3 < W.heap.size
theorem wh_map (es : List Ent) (ac : Ent → Bool) : (wh es ac es.length).map (fun i : Fin es.length => en es i) = es.filter ac := by
  unfold wh
  rw [List.take_of_length_le (by simp)]
  have h : es = (List.finRange es.length).map (fun i : Fin es.length => en es i) := by
    apply List.ext_getElem
    · simp
    · intro i h1 h2
      simp [en_eq h1]
  have h2 : ((List.finRange es.length).filter fun i : Fin es.length => ac (en es i)).map (fun i : Fin es.length => en es i) = ((List.finRange es.length).map (fun i : Fin es.length => en es i)).filter ac := by
    rw [List.filter_map]; rfl
  rw [h2, ← h]
theorem ColI.own (w : World) (es : List Ent) (D : Nat) (hD : w.heap.size + 4 ≤ D) : OwnFrom D (ColI w es) := by
  intro s A B row hs hg hr
  obtain ⟨v, h1, h2, h3, h4⟩ := hs
  exact ⟨v, h1.nc hg (fun r e => (hr r e).2), h2.nc hg (fun r e => (hr r e).2), h3.grown hg h3.size (fun k e => by have := (hr k e).1; omega), Nat.lt_of_lt_of_le h4 hg.size⟩
theorem OE.isCells {w : World} {B : Nat} {v : Value} {es : List Ent} (h : OE w B v es) : ∀ (j : Nat) (o : Obj), v.ownBlock = some j → w.heap[j]? = some o → o.isCells = true := by
  obtain ⟨u1, u2⟩ := h
  intro k o hk ho
  rcases u2 with ⟨rfl, _⟩ | ⟨g', cap', cur, rfl, e2, hh, _⟩
  · cases hk
  · simp only [Value.ownBlock, Option.some.injEq] at hk
    subst hk
    rw [hh] at ho
    injection ho with ho
    subst ho
    rfl
theorem OE.other {w : World} {B b : Nat} {v : Value} {es : List Ent} (h : OE w B v es) (hb : b < B) (i : Nat) (u : Value) : OE (w.setCell ⟨b, i, none⟩ u) B v es := by
  obtain ⟨h1, h2⟩ := h
  refine ⟨h1, ?_⟩
  rcases h2 with h2 | ⟨g, cap, cur, hv, hg, hh, r⟩
  · exact Or.inl h2
  · exact Or.inr ⟨g, cap, cur, hv, hg, (Below.heap_setCell w ⟨b, i, none⟩ u g (by show g ≠ b; omega)).trans hh, r⟩
theorem Bk.newAt {X : World} {n : Nat} (h : X.heap.size = n) (cs : Array Value) (t : TypeId) : Bk (X.alloc (.cells cs t)) n t cs := h ▸ Bk.new X cs t
def acF (p : ByteArray) (x : Ent) : Bool := Nm.begins x.name.data.toList p.data.toList
-- @walks
set_option maxHeartbeats 16000000 in
set_option maxRecDepth 100000 in
theorem find_any (A : Option Addr) (c n : Nat) (es : List Ent) (p : ByteArray) (w : World) (hn : es.length = n) (hx : n ≤ 1000000000000) (hA : RE w A es) (hk : Kn w.heap.size w) (hs : ∀ j, j < es.length → (en es j).name.size ≤ 1000000000000) (hp : p.size ≤ 1000000000000) :
    Calls Tryz.prog 12 #[.slice A n c, .string p] w (OwnPost w.heap.size (es.filter (acF p)) w) := by
  subst hn
  have HA := Lib.hid hA
  have HK := Lib.hid hk
  have HS := Lib.hid hs
  clear hk hs
  clear hA
  refine (callsIn_wide (n := 3)).1 ?_
  refine callsIn_of_wp_marks Tryz.func12 rfl trivial ?_ rfl
  simp only [Tryz.ntmps12, List.size_toArray, List.length_cons, List.length_nil, Nat.reduceAdd, Nat.reduceSub, Array.replicate_succ, Array.replicate_zero, List.push_toArray, List.append_toArray, List.nil_append, List.cons_append]
  refine wpIn_wide.2 ?_
  go_wp2_with (go_at_call 27; refine (where_any _ _ _ _ _ _).mono ?_; rintro e w' ⟨rfl, rfl⟩)
  obtain ⟨W0, hW0⟩ : ∃ X, (((w.alloc (.cells #[.string p] 9)).alloc (.cells #[.slice none 0 0] 22)).alloc (.cells #[.slice A es.length c] 22)).alloc (.cells #[.func (.func 28) #[] #[.pointer (some ⟨w.heap.size, 0, none⟩)]] 70) = X := ⟨_, rfl⟩
  have hz : W0.heap.size = w.heap.size + 4 := by rw [← hW0]; simp
  have o0 : Below w.heap.size w W0 := by rw [← hW0]; exact ((((Below.refl _ _).alloc (Nat.le_refl _) _).alloc (by simp) _).alloc (by simp; omega) _).alloc (by simp; omega) _
  have p0 : Bk W0 w.heap.size 9 #[.string p] := by rw [← hW0]; exact (((Bk.new _ _ _).alloc _).alloc _).alloc _
  have p1 : Bk W0 (w.heap.size + 1) 22 #[.slice none 0 0] := by rw [← hW0]; exact ((Bk.newAt (by simp) _ _).alloc _).alloc _
  have p2 : Bk W0 (w.heap.size + 1 + 1) 22 #[.slice A es.length c] := by rw [← hW0]; exact (Bk.newAt (by simp) _ _).alloc _
  have p3 : Bk W0 (w.heap.size + 1 + 1 + 1) 70 #[.func (.func 28) #[] #[.pointer (some ⟨w.heap.size, 0, none⟩)]] := by rw [← hW0]; exact Bk.newAt (by simp) _ _
  rw [hW0]
  clear hW0
  have HX : Hid (∀ k, k < es.length → ∀ X, KpW (w.heap.size + 1) (w.heap.size + 1 + 1) (w.heap.size + 1 + 1 + 1) W0 X → Calls Tryz.prog 28 (#[entV (en es k)] ++ #[.pointer (some ⟨w.heap.size, 0, none⟩)]) X fun e X' => e = .returned (.bool ((acF p) (en es k))) ∧ Below X.heap.size X X') := by
    refine Lib.hid (fun k hk X hX => ?_)
    have hbX : Below w.heap.size w X := o0.trans (hX.bel.mono (by omega))
    have q0 := p0.below hX.bel (by omega)
    have hzX := hX.bel.size
    have c0 := q0.cell 0
    exact findL_any (en es k) w.heap.size p X (HK.out.below hbX).tab (HK.out.below hbX).max (by omega) c0 (HS.out k hk) hp
  have HC : Hid (∀ k, k < es.length → ∃ b off, A = some ⟨b, off, none⟩ ∧ b < w.heap.size + 1 ∧ ∀ j, j < es.length → EntAt W0 b (off + j * 4) (en es j)) := by
    refine Lib.hid (fun k hk => ?_)
    obtain ⟨b, off, e, hb, hc⟩ := HA.out k hk
    exact ⟨b, off, e, by omega, fun j hj => (hc j hj).below o0 hb⟩
  refine (wpIn_wide (n := 3)).1 ?_
  refine wpIn_rangeFunc_ownH rfl (by omega) (gf := 62) (lb := #[.pointer (some ⟨w.heap.size + 1 + 1, 0, none⟩), .pointer (some ⟨w.heap.size + 1 + 1 + 1, 0, none⟩)]) rfl trivial (enters_of Tryz.func62 (by kernel_rfl) rfl)
    (where_stops (w.heap.size + 1 + 1) (w.heap.size + 1 + 1 + 1) (w.heap.size + 1) c 28 #[.pointer (some ⟨w.heap.size, 0, none⟩)] A es (acF p) hx W0 (by omega) (by omega) (by omega) (p2.cell 0) (p3.cell 0) (enters_of Tryz.func28 (by kernel_rfl) rfl) HX.out HC.out)
    KpW.t (KpW.b (by omega) (by omega) (by omega)) (Below.refl _ _) (fun _ => rfl) (ColI w es) (fun _ _ _ => False) (ColI.own w es _ (by omega)) (fun _ _ _ _ _ hs _ _ => hs)
    ⟨_, p1, OE.nil _ _, o0, by omega⟩
    (fun x a' W => ∃ Bx, w.heap.size + 3 < Bx ∧ Bk W Bx 29 #[.string (en es x).name, .int .i64 (en es x).feat, .int .i64 (en es x).sheet, .string (en es x).sq] ∧ a' = { tmps := #[.slice A es.length c, .string p, undef, .pointer (some ⟨w.heap.size, 0, none⟩), .pointer (some ⟨w.heap.size + 1, 0, none⟩), .func (.func 28) #[] #[.pointer (some ⟨w.heap.size, 0, none⟩)], .pointer (some ⟨Bx, 0, none⟩), .func (.func 28) #[] #[.pointer (some ⟨w.heap.size, 0, none⟩)], .slice A es.length c, .func (.func 28) #[] #[.pointer (some ⟨w.heap.size, 0, none⟩)], .func (.func 62) #[] #[.pointer (some ⟨w.heap.size + 1 + 1, 0, none⟩), .pointer (some ⟨w.heap.size + 1 + 1 + 1, 0, none⟩)], .agg #[.string (en es x).name, .int .i64 (en es x).feat, .int .i64 (en es x).sheet, .string (en es x).sq], undef, undef, undef, undef, undef], defers := [] })
    (fun x a' _ A' B' row hs hg hr => by
      obtain ⟨Bx, h1, h2, h3⟩ := hs
      exact ⟨Bx, h1, h2.nc hg (fun r e => (hr r e).2), h3⟩)
    ?assign ?body ?done ?stop
  case assign =>
    intro l pre x W K hI hK
    obtain ⟨v, k1, ho, hb, hs⟩ := hI
    have hal : Below W.heap.size W (W.alloc (.cells #[.string (en es x).name, .int .i64 (en es x).feat, .int .i64 (en es x).sheet, .string (en es x).sq] 29)) := (Below.refl _ _).alloc (Nat.le_refl _) _
    have HKK := Lib.hid hK
    clear hK
    simp only [entV]
    gi_wp2_with fail
    refine HKK.out _ _ ((KeepsOthers.alloc _ _).from _) (KpW.of_below hal (by omega) (by omega) (by omega)) ⟨v, k1.alloc _, ho.below hal (Nat.le_refl _), hb.trans (hal.mono hb.size), by simp; omega⟩ ⟨W.heap.size, hs, Bk.new _ _ _, rfl⟩
  case body =>
    rintro l pre x a' W hl ⟨r, hr⟩ ⟨v, k1, ho, hb, hs⟩ ⟨Bx, hBx, bX, rfl⟩ hlt
    have d0 : W.cell? ⟨w.heap.size + 1, 0, none⟩ = some v := k1.cell 0
    have x0 : W.cell? ⟨Bx, 0, none⟩ = some (.string (en es x).name) := bX.cell 0
    have x1 : W.cell? ⟨Bx, 1, none⟩ = some (.int .i64 (en es x).feat) := bX.cell 1
    have x2 : W.cell? ⟨Bx, 2, none⟩ = some (.int .i64 (en es x).sheet) := bX.cell 2
    have x3 : W.cell? ⟨Bx, 3, none⟩ = some (.string (en es x).sq) := bX.cell 3
    obtain ⟨A1, c1, hv, _, _⟩ := ho.form
    rw [List.length_map] at hv
    subst hv
    have HO := Lib.hid ho
    have HOW := Lib.hid ho.own
    have HCE := Lib.hid ho.isCells
    have HK1 := Lib.hid k1
    have hlen : (pre.map fun i : Fin es.length => en es i).length ≤ 1000000000000 := by simp; omega
    clear ho hr
    gi_wp2_with (gi_at_builtin; refine append_entIn rfl _ _ rfl W (w.heap.size + 4) (.slice A1 pre.length c1) (pre.map fun i : Fin es.length => en es i) (en es x) rfl HO.out rfl hlen (by omega) ?_; intro v' w1 ho1 hg1; obtain ⟨g', cap', rfl⟩ := ho1.slice (by simp); have k2 := HK1.out.grown hg1 (fun e => by have := HOW.out _ e.symm; omega); have e1 := k2.cell 0; have f1 := k2.frozen 0; have HO1 := Lib.hid ho1; clear ho1 d0)
    have hb1 : Below (w.heap.size + 1) W w1 := grown_below_own hg1 (fun k e => by have := HOW.out k e; omega) (by omega)
    have hz1 := hb1.size
    refine ⟨((KeepsOthers.of_grownBy hg1 HCE.out).trans (KeepsOthers.setCell _ _ _)).from _, ⟨hb1.setCell (p := ⟨w.heap.size + 1, 0, none⟩) (Nat.le_refl _) _, ?_, ?_⟩, ⟨_, k2.set0 _, ?_, ?_, by simp; omega⟩⟩
    · exact (Below.heap_setCell _ _ _ _ (by show w.heap.size + 1 + 1 ≠ w.heap.size + 1; omega)).trans (hg1.block _ (by omega) (fun e => by have := HOW.out _ e.symm; omega))
    · exact (Below.heap_setCell _ _ _ _ (by show w.heap.size + 1 + 1 + 1 ≠ w.heap.size + 1; omega)).trans (hg1.block _ (by omega) (fun e => by have := HOW.out _ e.symm; omega))
    · have h9 := HO1.out
      simp only [List.length_append, List.length_map, List.length_cons, List.length_nil, Nat.zero_add] at h9
      rw [List.map_append]
      exact h9.other (b := w.heap.size + 1) (by omega) _ _
    · exact (hb.trans (hb1.mono (by omega))).setCell (p := ⟨w.heap.size + 1, 0, none⟩) (by show w.heap.size ≤ w.heap.size + 1; omega) _
  case done =>
    rintro D ys W hD rfl ⟨v, k1, ho, hb, hs⟩ hK
    rw [wh_map] at ho
    have HO := Lib.hid ho
    obtain ⟨A1, c1, hv, _, _⟩ := ho.form
    clear ho
    subst hv
    have e1 := k1.cell 0
    have f1 := k1.frozen 0
    simp only [List.getElem?_toArray, List.getElem?_cons_zero] at e1
    have k2 := k1.set0 (.slice A1 (es.filter (acF p)).length c1)
    have hb2 := hb.setCell (p := ⟨w.heap.size + 1, 0, none⟩) (by show w.heap.size ≤ w.heap.size + 1; omega) (.slice A1 (es.filter (acF p)).length c1)
    have HO2 := Lib.hid (HO.out.other (b := w.heap.size + 1) (by omega) 0 (.slice A1 (es.filter (acF p)).length c1))
    have hK2 : (W.setCell ⟨w.heap.size + 1, 0, none⟩ (.slice A1 (es.filter (acF p)).length c1)).heap[D]? = some (.deferred (some [])) := (Below.heap_setCell _ _ _ _ (by show D ≠ w.heap.size + 1; omega)).trans hK
    go_wp2_with fail
    generalize W.setCell ⟨w.heap.size + 1, 0, none⟩ (.slice A1 (es.filter (acF p)).length c1) = W5 at *
    have hg5 : W5.grownBy (W5.putObj D (.deferred none)) (some D) := grownBy_putObj' _ D (.deferred none)
    have hr5 : ∀ r, some D = some r → ∃ o : Obj, W5.heap[r]? = some o ∧ o.isCells = false := fun r e => by cases e; exact ⟨_, hK2, rfl⟩
    have k3 := k2.nc hg5 hr5
    have e3 := k3.cell 0
    have b3 := hb2.grown hg5 hb2.size (fun k e => by cases e; omega)
    refine ⟨by simp, .inl ⟨_, _, rfl, run_takeDeferred hK2, ?_⟩⟩
    refine ⟨.slice A1 (es.filter (acF p)).length c1, ?_, ⟨_, rfl, OE.mono (HO2.out.nc hg5 hr5) (by omega), b3⟩⟩
    simp [results, Tryz.f12, go_sem, e3]
  case stop =>
    rintro D c' pre W _ _ h _
    exact h.elim
set_option maxHeartbeats 16000000 in
set_option maxRecDepth 100000 in
theorem without_any (A : Option Addr) (c n : Nat) (es : List Ent) (g og cs : Nat) (xs : List Int) (w : World) (hn : es.length = n) (hx : n ≤ 1000000000000) (hA : RE w A es) (hg : g < w.heap.size) (hxs : ∀ j, j < xs.length → w.cell? ⟨g, og + j, none⟩ = some (.int .i64 (xs.getD j 0))) (h1 : xs.length ≤ 1000000000000) :
    Calls Tryz.prog 11 #[.slice A n c, .slice (some ⟨g, og, none⟩) xs.length cs] w (OwnPost w.heap.size (es.filter (Gz.other xs)) w) := by
  subst hn
  have HA := Lib.hid hA
  have HXS := Lib.hid hxs
  clear hxs
  clear hA
  refine (callsIn_wide (n := 3)).1 ?_
  refine callsIn_of_wp_marks Tryz.func11 rfl trivial ?_ rfl
  simp only [Tryz.ntmps11, List.size_toArray, List.length_cons, List.length_nil, Nat.reduceAdd, Nat.reduceSub, Array.replicate_succ, Array.replicate_zero, List.push_toArray, List.append_toArray, List.nil_append, List.cons_append]
  refine wpIn_wide.2 ?_
  go_wp2_with (go_at_call 27; refine (where_any _ _ _ _ _ _).mono ?_; rintro e w' ⟨rfl, rfl⟩)
  obtain ⟨W0, hW0⟩ : ∃ X, (((w.alloc (.cells #[.slice (some ⟨g, og, none⟩) xs.length cs] 36)).alloc (.cells #[.slice none 0 0] 22)).alloc (.cells #[.slice A es.length c] 22)).alloc (.cells #[.func (.func 25) #[] #[.pointer (some ⟨w.heap.size, 0, none⟩)]] 70) = X := ⟨_, rfl⟩
  have hz : W0.heap.size = w.heap.size + 4 := by rw [← hW0]; simp
  have o0 : Below w.heap.size w W0 := by rw [← hW0]; exact ((((Below.refl _ _).alloc (Nat.le_refl _) _).alloc (by simp) _).alloc (by simp; omega) _).alloc (by simp; omega) _
  have p0 : Bk W0 w.heap.size 36 #[.slice (some ⟨g, og, none⟩) xs.length cs] := by rw [← hW0]; exact (((Bk.new _ _ _).alloc _).alloc _).alloc _
  have p1 : Bk W0 (w.heap.size + 1) 22 #[.slice none 0 0] := by rw [← hW0]; exact ((Bk.newAt (by simp) _ _).alloc _).alloc _
  have p2 : Bk W0 (w.heap.size + 1 + 1) 22 #[.slice A es.length c] := by rw [← hW0]; exact (Bk.newAt (by simp) _ _).alloc _
  have p3 : Bk W0 (w.heap.size + 1 + 1 + 1) 70 #[.func (.func 25) #[] #[.pointer (some ⟨w.heap.size, 0, none⟩)]] := by rw [← hW0]; exact Bk.newAt (by simp) _ _
  rw [hW0]
  clear hW0
  have HX : Hid (∀ k, k < es.length → ∀ X, KpW (w.heap.size + 1) (w.heap.size + 1 + 1) (w.heap.size + 1 + 1 + 1) W0 X → Calls Tryz.prog 25 (#[entV (en es k)] ++ #[.pointer (some ⟨w.heap.size, 0, none⟩)]) X fun e X' => e = .returned (.bool ((Gz.other xs) (en es k))) ∧ Below X.heap.size X X') := by
    refine Lib.hid (fun k hk X hX => ?_)
    have hbX : Below w.heap.size w X := o0.trans (hX.bel.mono (by omega))
    have q0 := p0.below hX.bel (by omega)
    have hzX := hX.bel.size
    have c0 := q0.cell 0
    exact withoutL_any (en es k) w.heap.size g og cs xs X (by omega) (by omega) c0 (fun j hj => (hbX.cell (p := ⟨g, og + j, none⟩) hg).trans (HXS.out j hj)) h1
  have HC : Hid (∀ k, k < es.length → ∃ b off, A = some ⟨b, off, none⟩ ∧ b < w.heap.size + 1 ∧ ∀ j, j < es.length → EntAt W0 b (off + j * 4) (en es j)) := by
    refine Lib.hid (fun k hk => ?_)
    obtain ⟨b, off, e, hb, hc⟩ := HA.out k hk
    exact ⟨b, off, e, by omega, fun j hj => (hc j hj).below o0 hb⟩
  refine (wpIn_wide (n := 3)).1 ?_
  refine wpIn_rangeFunc_ownH rfl (by omega) (gf := 62) (lb := #[.pointer (some ⟨w.heap.size + 1 + 1, 0, none⟩), .pointer (some ⟨w.heap.size + 1 + 1 + 1, 0, none⟩)]) rfl trivial (enters_of Tryz.func62 (by kernel_rfl) rfl)
    (where_stops (w.heap.size + 1 + 1) (w.heap.size + 1 + 1 + 1) (w.heap.size + 1) c 25 #[.pointer (some ⟨w.heap.size, 0, none⟩)] A es (Gz.other xs) hx W0 (by omega) (by omega) (by omega) (p2.cell 0) (p3.cell 0) (enters_of Tryz.func25 (by kernel_rfl) rfl) HX.out HC.out)
    KpW.t (KpW.b (by omega) (by omega) (by omega)) (Below.refl _ _) (fun _ => rfl) (ColI w es) (fun _ _ _ => False) (ColI.own w es _ (by omega)) (fun _ _ _ _ _ hs _ _ => hs)
    ⟨_, p1, OE.nil _ _, o0, by omega⟩
    (fun x a' W => ∃ Bx, w.heap.size + 3 < Bx ∧ Bk W Bx 29 #[.string (en es x).name, .int .i64 (en es x).feat, .int .i64 (en es x).sheet, .string (en es x).sq] ∧ a' = { tmps := #[.slice A es.length c, .slice (some ⟨g, og, none⟩) xs.length cs, undef, .pointer (some ⟨w.heap.size, 0, none⟩), .pointer (some ⟨w.heap.size + 1, 0, none⟩), .func (.func 25) #[] #[.pointer (some ⟨w.heap.size, 0, none⟩)], .pointer (some ⟨Bx, 0, none⟩), .func (.func 25) #[] #[.pointer (some ⟨w.heap.size, 0, none⟩)], .slice A es.length c, .func (.func 25) #[] #[.pointer (some ⟨w.heap.size, 0, none⟩)], .func (.func 62) #[] #[.pointer (some ⟨w.heap.size + 1 + 1, 0, none⟩), .pointer (some ⟨w.heap.size + 1 + 1 + 1, 0, none⟩)], .agg #[.string (en es x).name, .int .i64 (en es x).feat, .int .i64 (en es x).sheet, .string (en es x).sq], undef, undef, undef, undef, undef], defers := [] })
    (fun x a' _ A' B' row hs hg hr => by
      obtain ⟨Bx, h1, h2, h3⟩ := hs
      exact ⟨Bx, h1, h2.nc hg (fun r e => (hr r e).2), h3⟩)
    ?assign ?body ?done ?stop
  case assign =>
    intro l pre x W K hI hK
    obtain ⟨v, k1, ho, hb, hs⟩ := hI
    have hal : Below W.heap.size W (W.alloc (.cells #[.string (en es x).name, .int .i64 (en es x).feat, .int .i64 (en es x).sheet, .string (en es x).sq] 29)) := (Below.refl _ _).alloc (Nat.le_refl _) _
    have HKK := Lib.hid hK
    clear hK
    simp only [entV]
    gi_wp2_with fail
    refine HKK.out _ _ ((KeepsOthers.alloc _ _).from _) (KpW.of_below hal (by omega) (by omega) (by omega)) ⟨v, k1.alloc _, ho.below hal (Nat.le_refl _), hb.trans (hal.mono hb.size), by simp; omega⟩ ⟨W.heap.size, hs, Bk.new _ _ _, rfl⟩
  case body =>
    rintro l pre x a' W hl ⟨r, hr⟩ ⟨v, k1, ho, hb, hs⟩ ⟨Bx, hBx, bX, rfl⟩ hlt
    have d0 : W.cell? ⟨w.heap.size + 1, 0, none⟩ = some v := k1.cell 0
    have x0 : W.cell? ⟨Bx, 0, none⟩ = some (.string (en es x).name) := bX.cell 0
    have x1 : W.cell? ⟨Bx, 1, none⟩ = some (.int .i64 (en es x).feat) := bX.cell 1
    have x2 : W.cell? ⟨Bx, 2, none⟩ = some (.int .i64 (en es x).sheet) := bX.cell 2
    have x3 : W.cell? ⟨Bx, 3, none⟩ = some (.string (en es x).sq) := bX.cell 3
    obtain ⟨A1, c1, hv, _, _⟩ := ho.form
    rw [List.length_map] at hv
    subst hv
    have HO := Lib.hid ho
    have HOW := Lib.hid ho.own
    have HCE := Lib.hid ho.isCells
    have HK1 := Lib.hid k1
    have hlen : (pre.map fun i : Fin es.length => en es i).length ≤ 1000000000000 := by simp; omega
    clear ho hr
    gi_wp2_with (gi_at_builtin; refine append_entIn rfl _ _ rfl W (w.heap.size + 4) (.slice A1 pre.length c1) (pre.map fun i : Fin es.length => en es i) (en es x) rfl HO.out rfl hlen (by omega) ?_; intro v' w1 ho1 hg1; obtain ⟨g', cap', rfl⟩ := ho1.slice (by simp); have k2 := HK1.out.grown hg1 (fun e => by have := HOW.out _ e.symm; omega); have e1 := k2.cell 0; have f1 := k2.frozen 0; have HO1 := Lib.hid ho1; clear ho1 d0)
    have hb1 : Below (w.heap.size + 1) W w1 := grown_below_own hg1 (fun k e => by have := HOW.out k e; omega) (by omega)
    have hz1 := hb1.size
    refine ⟨((KeepsOthers.of_grownBy hg1 HCE.out).trans (KeepsOthers.setCell _ _ _)).from _, ⟨hb1.setCell (p := ⟨w.heap.size + 1, 0, none⟩) (Nat.le_refl _) _, ?_, ?_⟩, ⟨_, k2.set0 _, ?_, ?_, by simp; omega⟩⟩
    · exact (Below.heap_setCell _ _ _ _ (by show w.heap.size + 1 + 1 ≠ w.heap.size + 1; omega)).trans (hg1.block _ (by omega) (fun e => by have := HOW.out _ e.symm; omega))
    · exact (Below.heap_setCell _ _ _ _ (by show w.heap.size + 1 + 1 + 1 ≠ w.heap.size + 1; omega)).trans (hg1.block _ (by omega) (fun e => by have := HOW.out _ e.symm; omega))
    · have h9 := HO1.out
      simp only [List.length_append, List.length_map, List.length_cons, List.length_nil, Nat.zero_add] at h9
      rw [List.map_append]
      exact h9.other (b := w.heap.size + 1) (by omega) _ _
    · exact (hb.trans (hb1.mono (by omega))).setCell (p := ⟨w.heap.size + 1, 0, none⟩) (by show w.heap.size ≤ w.heap.size + 1; omega) _
  case done =>
    rintro D ys W hD rfl ⟨v, k1, ho, hb, hs⟩ hK
    rw [wh_map] at ho
    have HO := Lib.hid ho
    obtain ⟨A1, c1, hv, _, _⟩ := ho.form
    clear ho
    subst hv
    have e1 := k1.cell 0
    have f1 := k1.frozen 0
    simp only [List.getElem?_toArray, List.getElem?_cons_zero] at e1
    have k2 := k1.set0 (.slice A1 (es.filter (Gz.other xs)).length c1)
    have hb2 := hb.setCell (p := ⟨w.heap.size + 1, 0, none⟩) (by show w.heap.size ≤ w.heap.size + 1; omega) (.slice A1 (es.filter (Gz.other xs)).length c1)
    have HO2 := Lib.hid (HO.out.other (b := w.heap.size + 1) (by omega) 0 (.slice A1 (es.filter (Gz.other xs)).length c1))
    have hK2 : (W.setCell ⟨w.heap.size + 1, 0, none⟩ (.slice A1 (es.filter (Gz.other xs)).length c1)).heap[D]? = some (.deferred (some [])) := (Below.heap_setCell _ _ _ _ (by show D ≠ w.heap.size + 1; omega)).trans hK
    go_wp2_with fail
    generalize W.setCell ⟨w.heap.size + 1, 0, none⟩ (.slice A1 (es.filter (Gz.other xs)).length c1) = W5 at *
    have hg5 : W5.grownBy (W5.putObj D (.deferred none)) (some D) := grownBy_putObj' _ D (.deferred none)
    have hr5 : ∀ r, some D = some r → ∃ o : Obj, W5.heap[r]? = some o ∧ o.isCells = false := fun r e => by cases e; exact ⟨_, hK2, rfl⟩
    have k3 := k2.nc hg5 hr5
    have e3 := k3.cell 0
    have b3 := hb2.grown hg5 hb2.size (fun k e => by cases e; omega)
    refine ⟨by simp, .inl ⟨_, _, rfl, run_takeDeferred hK2, ?_⟩⟩
    refine ⟨.slice A1 (es.filter (Gz.other xs)).length c1, ?_, ⟨_, rfl, OE.mono (HO2.out.nc hg5 hr5) (by omega), b3⟩⟩
    simp [results, Tryz.f11, go_sem, e3]
  case stop =>
    rintro D c' pre W _ _ h _
    exact h.elim
end Go.Proofs.YtcbobceggjndlaaGreatDoor
