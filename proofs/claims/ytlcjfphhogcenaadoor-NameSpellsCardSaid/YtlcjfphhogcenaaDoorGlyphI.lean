/-
  Walks of layer 6: directions.
-/
import Derived.Test.YtlcjfphhogcenaaDoorGlyphH
import Derived.Test.YtlcjfphhogcenaaDoorPlainP
import Derived.Laws.EntriesVeiled
import Derived.Deep.DeepCutAuto
import Derived.RegionTactic
import Derived.Deep.RegionWith
set_option linter.unusedVariables false
set_option linter.unusedSimpArgs false
namespace Go.Proofs.YtlcjfphhogcenaaDoor
open Go.RowKit Go.Shelf
attribute [local go_sem] Oper.semAt_some

theorem bool_info : (Tryd.prog.info? 4).map (fun i => (i.zero, i.size, i.bytes)) = some (some (.bool false), 1, 1) := by kernel_rfl
theorem run_make_rowN {P : Program} (t e : TypeId) (i : TypeInfo) (z : Value) (ht : P.underlying t = some (.slice e)) (hi : P.info? e = some i) (hz : i.zero = some z)
    (kl kc : IntKind) (n c : Nat) (hnc : n ≤ c) (hbytes : i.bytes * c ≤ 281474976710656) (h63 : c ≤ 9223372036854775807) (w : World) :
    (Instr.makeSlice t (.int kl (n : Int)) (.int kc (c : Int))).run P w = .ok (.slice (some ⟨w.heap.size, 0, none⟩) n c) (w.alloc (.cells (madeCells z.cells (c * i.size)) e)) := by
  have hb : (i.bytes : Int) * (c : Int) ≤ 281474976710656 := by
    have h : ((i.bytes * c : Nat) : Int) ≤ 281474976710656 := by omega
    rwa [Int.natCast_mul] at h
  have hr := run_make (P := P) w t e i z ht hi hz kl kc n c (by omega) (by omega) hb (by omega)
  simp only [Int.toNat_natCast] at hr
  exact hr
theorem made_false (n : Nat) : madeCells #[.bool false] n = (List.replicate n (Value.bool false)).toArray := by
  apply Array.ext
  · simp [madeCells]
  · intro i h1 h2
    simp [madeCells, Nat.mod_one]
/-- n flags, all false. -/
def noFlags (n : Nat) : Array Value := (List.replicate n (Value.bool false)).toArray
theorem make_bools (n : Nat) (hn : n ≤ 10000000000000) (w : World) :
    (Instr.makeSlice 63 (.int .i64 (n : Int)) (.int .i64 (n : Int))).run Tryd.prog w = .ok (.slice (some ⟨w.heap.size, 0, none⟩) n n) (w.alloc (.cells (noFlags n) 4)) := by
  obtain ⟨i0, hi, hz0, hz1, hz2⟩ := info_parts bool_info
  have := run_make_rowN (P := Tryd.prog) 63 4 i0 (.bool false) Tryd.underlying63 hi hz0 .i64 .i64 n n (Nat.le_refl _) (by rw [hz2]; omega) (by omega) w
  rw [hz1, Nat.mul_one, show Value.cells (.bool false) = #[.bool false] from rfl, made_false] at this
  exact this

/-- The variables of directions: the result's cell, the base's cell, the two function values, the flags. -/
structure DirSt (w wr : World) (m n : Nat) (base : Bool) (bs : List Bool) : Prop where
  res : Blk wr w.heap.size 63 [.slice (some ⟨m, 0, none⟩) n n]
  bas : Blk wr (w.heap.size + 1) 4 [.bool base]
  fst : Blk wr (w.heap.size + 1 + 1) 36 [.func (.func 73) #[] #[]]
  snd : Blk wr (w.heap.size + 1 + 1 + 1) 36 [.func (.func 74) #[] #[]]
  fls : Blk wr m 4 (bs.map Value.bool)
  far : w.heap.size + 3 < m
  old : Below w.heap.size w wr

theorem DirSt.below {w wr wx : World} {m n : Nat} {base : Bool} {bs : List Bool} (h : DirSt w wr m n base bs) (hb : Below wr.heap.size wr wx) : DirSt w wx m n base bs :=
  ⟨h.res.below hb h.res.lt, h.bas.below hb h.bas.lt, h.fst.below hb h.fst.lt, h.snd.below hb h.snd.lt, h.fls.below hb h.fls.lt, h.far, h.old.trans (hb.mono h.old.size)⟩
theorem Blk.other {w : World} {b b' : Nat} {t : TypeId} {l : List Value} (h : Blk w b t l) (hne : b ≠ b') (i : Nat) (u : Value) : Blk (w.setCell ⟨b', i, none⟩ u) b t l := (Below.heap_setCell w ⟨b', i, none⟩ u b hne).trans h
theorem DirSt.put {w wr : World} {m n : Nat} {base : Bool} {bs : List Bool} (h : DirSt w wr m n base bs) (i : Nat) (x : Bool) : DirSt w (wr.setCell ⟨m, i, none⟩ (.bool x)) m n base (bs.set i x) :=
  ⟨h.res.other (by have := h.far; omega) _ _, h.bas.other (by have := h.far; omega) _ _, h.fst.other (by have := h.far; omega) _ _, h.snd.other (by have := h.far; omega) _ _,
    by rw [List.map_set]; exact h.fls.set i _, h.far, h.old.setCell (p := ⟨m, i, none⟩) (by have := h.far; show w.heap.size ≤ m; omega) _⟩

theorem Blk.nc {A B : World} {row : Option Nat} {b : Nat} {t : TypeId} {l : List Value} (h : Blk A b t l) (hg : A.grownBy B row) (hr : ∀ r, row = some r → ∃ o : Obj, A.heap[r]? = some o ∧ o.isCells = false) : Blk B b t l :=
  h.grown hg (fun e => by
    obtain ⟨o, ho, hc⟩ := hr b e.symm
    unfold Blk at h
    rw [h] at ho
    injection ho with ho
    subst ho
    cases hc)
theorem DirSt.nc {w A B : World} {row : Option Nat} {m n : Nat} {base : Bool} {bs : List Bool} (h : DirSt w A m n base bs) (hg : A.grownBy B row) (hr : ∀ r, row = some r → w.heap.size ≤ r ∧ ∃ o : Obj, A.heap[r]? = some o ∧ o.isCells = false) : DirSt w B m n base bs :=
  ⟨h.res.nc hg fun r e => (hr r e).2, h.bas.nc hg fun r e => (hr r e).2, h.fst.nc hg fun r e => (hr r e).2, h.snd.nc hg fun r e => (hr r e).2, h.fls.nc hg fun r e => (hr r e).2, h.far, h.old.grown hg h.old.size fun k e => (hr k e).1⟩

theorem DirSt.other {w wr : World} {m n : Nat} {base : Bool} {bs : List Bool} (h : DirSt w wr m n base bs) {q : Nat} (hq : m < q) (u : Value) : DirSt w (wr.setCell ⟨q, 0, none⟩ u) m n base bs :=
  ⟨h.res.other (by have := h.far; omega) _ _, h.bas.other (by have := h.far; omega) _ _, h.fst.other (by have := h.far; omega) _ _, h.snd.other (by have := h.far; omega) _ _,
    h.fls.other (by omega) _ _, h.far, h.old.setCell (p := ⟨q, 0, none⟩) (by have := h.far; show w.heap.size ≤ q; omega) _⟩

theorem DirSt.drew {w wr : World} {m n : Nat} {base : Bool} {bs : List Bool} (h : DirSt w wr m n base bs) : DirSt w wr.drew m n base bs := ⟨h.res, h.bas, h.fst, h.snd, h.fls, h.far, h.old.drew⟩

/-- The k-th flag. -/
def gb (bs : List Bool) (k : Nat) : Bool := bs.getD k false
theorem DirSt.flag {w wr : World} {m n : Nat} {base : Bool} {bs : List Bool} (h : DirSt w wr m n base bs) {k : Nat} (hk : k < bs.length) : wr.cell? ⟨m, k, none⟩ = some (.bool (gb bs k)) := by
  rw [h.fls.cell, List.getElem?_map, List.getElem?_eq_getElem hk]
  simp [gb, hk]
theorem befores_put {xs : List Int} {k : Nat} (hk : k < xs.length) : (Gl.befores xs k ++ List.replicate (xs.length - k) false).set k (Gl.scan (Gl.base xs) (xs.take (k + 1))) = Gl.befores xs (k + 1) ++ List.replicate (xs.length - (k + 1)) false := by
  rw [List.set_append_right _ _ (by rw [Gl.befores_length]; exact Nat.le_refl _), Gl.befores_length, Nat.sub_self, show xs.length - k = (xs.length - (k + 1)) + 1 by omega, List.replicate_succ, List.set_cons_zero]
  simp [Gl.befores, List.range_succ]

theorem keeps_below {W w2 : World} (hb : Below W.heap.size W w2) : KeepsOthers W w2 := KeepsOthers.of_grownBy (grownBy_below hb none) (fun _ _ e _ => by cases e)
theorem kpB_below {n₀ Bs : Nat} {W w2 : World} (hb : Below W.heap.size W w2) (h : n₀ ≤ W.heap.size) (hB : Bs < W.heap.size) : KpB n₀ Bs W w2 := ⟨hb.mono h, hb.block Bs hB⟩
theorem kpB_drew {n₀ Bs : Nat} {W w2 : World} (h : KpB n₀ Bs W w2) : KpB n₀ Bs W w2.drew := ⟨h.1.drew, h.2⟩
theorem kpB_set {n₀ Bs : Nat} {W w2 : World} (h : KpB n₀ Bs W w2) {b i : Nat} (hb : n₀ ≤ b) (hne : Bs ≠ b) (u : Value) : KpB n₀ Bs W (w2.setCell ⟨b, i, none⟩ u) := ⟨h.1.setCell (p := ⟨b, i, none⟩) hb u, (Below.heap_setCell w2 ⟨b, i, none⟩ u Bs hne).trans h.2⟩
theorem dstep_same {xs : List Int} {bs : List Bool} {a a' : Bool} {i : Nat} (ha : (if Gl.st (gi xs i) then Gl.hb (gi xs i) else a) = a') (h : gb bs i = a') : Gl.dstep xs (bs, a) i = (bs, a') := by
  unfold Gl.dstep; simp only; rw [ha]; unfold gb at h; rw [if_pos h]
theorem dstep_diff {xs : List Int} {bs : List Bool} {a a' : Bool} {i : Nat} (ha : (if Gl.st (gi xs i) then Gl.hb (gi xs i) else a) = a') (h : ¬ gb bs i = a') : Gl.dstep xs (bs, a) i = (bs.set i (Gl.base xs), a') := by
  unfold Gl.dstep; simp only; rw [ha]; unfold gb at h; rw [if_neg h]
theorem fold_snoc {xs : List Int} {pre : List (Fin xs.length)} {x : Fin xs.length} {s0 s s' : List Bool × Bool} (h : pre.foldl (fun s (i : Fin xs.length) => Gl.dstep xs s (i : Nat)) s0 = s) (h' : Gl.dstep xs s (x : Nat) = s') :
    (pre ++ [x]).foldl (fun s (i : Fin xs.length) => Gl.dstep xs s (i : Nat)) s0 = s' := by
  rw [List.foldl_append, h]; exact h'

theorem back_fold (xs : List Int) : (back xs.length xs.length).foldl (fun s (i : Fin xs.length) => Gl.dstep xs s (i : Nat)) (Gl.befores xs xs.length, Gl.base xs) = (Gl.lefts xs, Gl.scan (Gl.base xs) xs.reverse) := by
  have key : ∀ k, k ≤ xs.length → (back xs.length k).foldl (fun s (i : Fin xs.length) => Gl.dstep xs s (i : Nat)) (Gl.befores xs xs.length, Gl.base xs) = (Gl.mid xs (xs.length - k), Gl.scan (Gl.base xs) (xs.drop (xs.length - k)).reverse) := by
    intro k
    induction k with
    | zero => intro _; rw [back_zero, Nat.sub_zero, Gl.mid_end]; simp [Gl.scan_nil]
    | succ k ih =>
      intro hk
      rw [back_succ (by omega), List.foldl_append, ih (by omega)]
      simp only [List.foldl_cons, List.foldl_nil]
      have e : xs.length - k = (xs.length - 1 - k) + 1 := by omega
      rw [e, Gl.dstep_mid (by omega), show xs.length - (k + 1) = xs.length - 1 - k by omega]
  have := key xs.length (Nat.le_refl _)
  rw [Nat.sub_self, Gl.mid_zero, List.drop_zero] at this
  exact this

/-- The variables of directions, the base known, no flags yet. -/
structure DirB (w wr : World) (base : Bool) : Prop where
  res : Blk wr w.heap.size 63 [.slice none 0 0]
  bas : Blk wr (w.heap.size + 1) 4 [.bool base]
  fst : Blk wr (w.heap.size + 1 + 1) 36 [.func (.func 73) #[] #[]]
  snd : Blk wr (w.heap.size + 1 + 1 + 1) 36 [.func (.func 74) #[] #[]]
  old : Below w.heap.size w wr
theorem base_none {xs : List Int} (h : ∀ j, j < xs.length → Gl.st (gi xs j) = false) : Gl.base xs = false := by
  unfold Gl.base
  have : xs.find? Gl.st = none := by
    rw [List.find?_eq_none]
    intro x hx
    obtain ⟨j, hj, rfl⟩ := List.mem_iff_getElem.1 hx
    have := h j hj
    rw [gi_eq hj] at this
    rw [this]; decide
  rw [this]
theorem base_some {xs : List Int} {k : Nat} (hk : k < xs.length) (h1 : Gl.st (gi xs k) = true) (h : ∀ j, j < k → Gl.st (gi xs j) = false) : Gl.base xs = Gl.hb (gi xs k) := by
  unfold Gl.base
  have : xs.find? Gl.st = some (gi xs k) := by
    rw [List.find?_eq_some_iff_getElem]
    refine ⟨h1, k, hk, (gi_eq hk).symm, fun j hj => ?_⟩
    have := h j hj
    rw [gi_eq (by omega)] at this
    rw [this]; rfl
  rw [this]

/-- What directions hands back. -/
def DirPost (xs : List Int) (w : World) (e : Ending) (w' : World) : Prop :=
  Below w.heap.size w w' ∧ ∃ m, w.heap.size ≤ m ∧ Blk w' m 4 ((Gl.lefts xs).map Value.bool) ∧ e = .returned (.tuple #[.slice (some ⟨m, 0, none⟩) xs.length xs.length, .bool (Gl.base xs)])

theorem wp_nopanic {P : Program} {c : Code} {K : Act → World → Prop} {Q : Exit → Act → World → Prop} {a : Act} {w : World} (h : c.wp P (Exit.then K (fun _ _ _ => False)) a w) : c.wp P (Exit.then K Q) a w :=
  wp_mono h (by intro e a w h; cases e <;> first | exact h | exact h.elim)

set_option maxRecDepth 100000 in
set_option maxHeartbeats 4000000 in
theorem directions_any (A : Option Addr) (c : Nat) (xs : List Int) (w : World) (ht : Gl.Tab w) (hA : RI w A xs) (hx : xs.length ≤ 10000000000000) :
    Calls Tryd.prog 54 #[.slice A xs.length c] w (DirPost xs w) := by
  refine (callsIn_wide (n := 3)).1 ?_
  refine callsIn_of_wp_marks Tryd.func54 rfl trivial ?_ rfl
  simp only [Tryd.ntmps54, List.size_toArray, List.length_cons, List.length_nil, Nat.reduceAdd, Nat.reduceSub, Array.replicate_succ, Array.replicate_zero, List.push_toArray, List.append_toArray, List.nil_append, List.cons_append]
  have hmk := fun W => make_bools xs.length hx W
  refine wpIn_wide.2 ?_
  go_wp2_with fail
  obtain ⟨w0, hw0⟩ : ∃ w0 : World, w0 = ((((w.alloc (.cells #[.slice none 0 0] 63)).alloc (.cells #[.bool false] 4)).alloc (.cells #[.func (.func 73) #[] #[]] 36)).alloc (.cells #[.func (.func 74) #[] #[]] 36)) := ⟨_, rfl⟩
  have hz0 : w0.heap.size = w.heap.size + 4 := by rw [hw0]; simp
  have hb0 : Below w.heap.size w w0 := by
    rw [hw0]
    exact ((((Below.refl _ w).alloc (Nat.le_refl _) _).alloc (by simp) _).alloc (by simp; omega) _).alloc (by simp; omega) _
  have k0 : Blk w0 w.heap.size 63 [.slice none 0 0] := by
    rw [hw0]
    have h := heap_alloc_new w (.cells #[.slice none 0 0] 63)
    show _ = _
    rw [Below.heap_alloc _ _ _ (by simp; omega), Below.heap_alloc _ _ _ (by simp; try omega), Below.heap_alloc _ _ _ (by simp; try omega)]
    exact h
  have k1 : Blk w0 (w.heap.size + 1) 4 [.bool false] := by
    rw [hw0]
    have h := heap_alloc_new (w.alloc (.cells #[.slice none 0 0] 63)) (.cells #[.bool false] 4)
    rw [World.size_alloc] at h
    show _ = _
    rw [Below.heap_alloc _ _ _ (by simp), Below.heap_alloc _ _ _ (by simp)]
    exact h
  have k2 : Blk w0 (w.heap.size + 1 + 1) 36 [.func (.func 73) #[] #[]] := by
    rw [hw0]
    have h := heap_alloc_new ((w.alloc (.cells #[.slice none 0 0] 63)).alloc (.cells #[.bool false] 4)) (.cells #[.func (.func 73) #[] #[]] 36)
    rw [World.size_alloc, World.size_alloc] at h
    show _ = _
    rw [Below.heap_alloc _ _ _ (by simp)]
    exact h
  have k3 : Blk w0 (w.heap.size + 1 + 1 + 1) 36 [.func (.func 74) #[] #[]] := by
    rw [hw0]
    have h := heap_alloc_new (((w.alloc (.cells #[.slice none 0 0] 63)).alloc (.cells #[.bool false] 4)).alloc (.cells #[.func (.func 73) #[] #[]] 36)) (.cells #[.func (.func 74) #[] #[]] 36)
    rw [World.size_alloc, World.size_alloc, World.size_alloc] at h
    exact h
  rw [← hw0]
  clear hw0
  have ht0 := ht.below hb0 (Nat.le_refl _)
  have hA0 := hA.below hb0
  refine (idxf_any A c xs w0 ht0 hA0 hx).mono ?_
  rintro e w1 ⟨hb1, hcase⟩
  have j0 := k0.below hb1 k0.lt
  have j1 := k1.below hb1 k1.lt
  have j2 := k2.below hb1 k2.lt
  have j3 := k3.below hb1 k3.lt
  have hb01 := hb0.trans (hb1.mono hb0.size)
  have hz1 := hb1.size
  rw [hz0] at hz1
  clear k0 k1 k2 k3
  have c2 : w1.cell? ⟨w.heap.size + 1 + 1 + 1, 0, none⟩ = some (.func (.func 74) #[] #[]) := j3.cell 0
  have c3 : w1.cell? ⟨w.heap.size + 1, 0, none⟩ = some (.bool false) := j1.cell 0
  have c4 : w1.frozen? ⟨w.heap.size + 1, 0, none⟩ = false := j1.frozen 0
  obtain ⟨z, rfl, hz⟩ : ∃ z : Int, e = .returned (.int .i64 z) ∧ Hid ((z = -1 ∧ ∀ j, j < xs.length → Gl.st (gi xs j) = false) ∨ ∃ k : Nat, k < xs.length ∧ z = k ∧ Gl.st (gi xs k) = true ∧ ∀ j, j < k → Gl.st (gi xs j) = false) := by
    rcases hcase with ⟨rfl, h⟩ | ⟨k, hk, rfl, h1, h2⟩
    · exact ⟨-1, rfl, Or.inl ⟨rfl, h⟩⟩
    · exact ⟨k, rfl, Or.inr ⟨k, hk, rfl, h1, h2⟩⟩
  clear hcase
  have HA0 := Lib.hid hA0
  clear hA0
  go_upto_if 17 with (fail)
  go_cut [] from 18 to 23 (fun wx => DirB w wx (Gl.base xs))
  case first =>
    rcases hz.out with ⟨rfl, hnone⟩ | ⟨k, hk, rfl, hst, hbef⟩
    · have HB := Lib.hid (base_none hnone)
      clear hnone
      go_wp2_with fail
      go_meet
      exact ⟨j0, by rw [HB.out]; exact j1, j2, j3, hb01⟩
    · have HB := Lib.hid (base_some hk hst hbef)
      clear hst hbef
      have q0 : (0 : Int) ≤ (k : Int) := by omega
      have q1 : (k : Int) < (xs.length : Int) := by omega
      obtain ⟨b1, o1, rfl, hbb, hc1⟩ := hA k hk
      have c1 := (hb01.cell (p := ⟨b1, o1 + k, none⟩) hbb).trans (hc1 k hk)
      clear hc1
      go_wp2_with fail
      refine wp_nopanic ?_
      have htd : Gl.Tab w1.drew := ht0.below (w' := w1) hb1 (Nat.le_refl _)
      have hl1 : w.heap.size + 1 < w1.drew.heap.size := j1.lt
      go_region_with (go_at_call 74; refine (dir2_any _ w1.drew htd).mono ?_; rintro e w2 ⟨rfl, hb2⟩; have s1 : w2.cell? ⟨w.heap.size + 1, 0, none⟩ = some (.bool false) := (hb2.cell (p := ⟨w.heap.size + 1, 0, none⟩) hl1).trans c3; have s2 : w2.frozen? ⟨w.heap.size + 1, 0, none⟩ = false := (hb2.frozen (p := ⟨w.heap.size + 1, 0, none⟩) hl1).trans c4)
      all_goals (go_wp2_with fail; go_meet; exact ⟨(Blk.below (w := w1.drew) j0 hb2 j0.lt).other (by omega) _ _, by rw [HB.out]; exact (Blk.below (w := w1.drew) j1 hb2 j1.lt).set 0 _, (Blk.below (w := w1.drew) j2 hb2 j2.lt).other (by omega) _ _, (Blk.below (w := w1.drew) j3 hb2 j3.lt).other (by omega) _ _, (Below.trans (b := w1.drew) (Below.drew hb01) (hb2.mono hb01.size)).setCell (p := ⟨w.heap.size + 1, 0, none⟩) (by show w.heap.size ≤ w.heap.size + 1; omega) _⟩)
  case rest =>
    obtain ⟨d0, d1, d2, d3, d4⟩ := hcut
    obtain ⟨wx, rfl⟩ : ∃ wx : World, wx = wc := ⟨_, rfl⟩
    clear c2 c3 c4 j0 j1 j2 j3 hz hb1 hz1 hb01 ht0
    have HMK := Lib.hid hmk
    clear hmk
    have hmk := HMK.out wx
    have e0 : (wx.alloc (.cells (noFlags xs.length) 4)).cell? ⟨w.heap.size, 0, none⟩ = some (.slice none 0 0) := by rw [World.cell?_alloc_lt _ _ _ d0.lt]; exact d0.cell 0
    have e1 : (wx.alloc (.cells (noFlags xs.length) 4)).frozen? ⟨w.heap.size, 0, none⟩ = false := by rw [World.frozen?_alloc_old _ _ _ (Nat.ne_of_lt d0.lt)]; exact d0.frozen 0
    have e2 : ((wx.alloc (.cells (noFlags xs.length) 4)).setCell ⟨w.heap.size, 0, none⟩ (.slice (some ⟨wx.heap.size, 0, none⟩) xs.length xs.length)).cell? ⟨w.heap.size + 1, 0, none⟩ = some (.bool (Gl.base xs)) := by
      rw [World.cell?_setCell_other _ _ _ _ (by intro h; injection h; omega), World.cell?_alloc_lt _ _ _ d1.lt]; exact d1.cell 0
    have st0 : DirSt w ((wx.alloc (.cells (noFlags xs.length) 4)).setCell ⟨w.heap.size, 0, none⟩ (.slice (some ⟨wx.heap.size, 0, none⟩) xs.length xs.length)) wx.heap.size xs.length (Gl.base xs) (List.replicate xs.length false) := by
      have far := d3.lt
      have al : Below wx.heap.size wx (wx.alloc (.cells (noFlags xs.length) 4)) := (Below.refl _ _).alloc (Nat.le_refl _) _
      refine ⟨(d0.below al d0.lt).set 0 _, (d1.below al d1.lt).other (by omega) _ _, (d2.below al d2.lt).other (by omega) _ _, (d3.below al d3.lt).other (by omega) _ _, ?_, by omega, (d4.alloc d4.size _).setCell (p := ⟨w.heap.size, 0, none⟩) (Nat.le_refl _) _⟩
      refine Blk.other ?_ (by omega) _ _
      have h := heap_alloc_new wx (.cells (noFlags xs.length) 4)
      rw [List.map_replicate]
      exact h
    generalize hm : wx.heap.size = m at *
    clear hm
    go_wp2_with fail
    generalize (wx.alloc (.cells (noFlags xs.length) 4)).setCell ⟨w.heap.size, 0, none⟩ (.slice (some ⟨m, 0, none⟩) xs.length xs.length) = wy at *
    clear e0 e1 e2 hmk d0 d1 d2 d3 d4 HMK
    go_loopw [7, 30] (fun bf i wr => ∃ k : Nat, k ≤ xs.length ∧ i = .int .i64 k ∧ bf = .bool (Gl.scan (Gl.base xs) (xs.take k)) ∧ DirSt w wr m xs.length (Gl.base xs) (Gl.befores xs k ++ List.replicate (xs.length - k) false)) (fun _ i _ => xs.length - (intOf i).toNat)
    case atStart => exact ⟨0, by omega, rfl, rfl, by simpa [Gl.befores] using st0⟩
    case round =>
      obtain ⟨k, hk, rfl, rfl, hst⟩ := hrel
      by_cases hlt : k < xs.length
      · obtain ⟨b1, o1, rfl, hbb, hc1⟩ := hA k hlt
        have c1 := (hst.old.cell (p := ⟨b1, o1 + k, none⟩) hbb).trans (hc1 k hlt)
        have f1 : wr.cell? ⟨w.heap.size + 1 + 1, 0, none⟩ = some (.func (.func 73) #[] #[]) := hst.fst.cell 0
        have htw := ht.below hst.old (Nat.le_refl _)
        have hbl : (Gl.befores xs k ++ List.replicate (xs.length - k) false).length = xs.length := by simp [Gl.befores_length]; omega
        have HBL := Lib.hid hbl
        have HSC := Lib.hid (Gl.scan_take (Gl.base xs) hlt)
        have HPUT := Lib.hid (befores_put hlt)
        clear hc1 hbl
        go_wp2_with (go_at_call 73; refine (dir1_any _ _ htw).mono ?_)
        first | rintro e w2 rfl hb2 | rintro e w2 ⟨rfl, hb2⟩
        have hs2 := hst.below hb2
        have f2 : w2.cell? ⟨w.heap.size + 1 + 1 + 1, 0, none⟩ = some (.func (.func 74) #[] #[]) := hs2.snd.cell 0
        have ht2 := ht.below hs2.old (Nat.le_refl _)
        cases hs : Gl.st (gi xs k)
        · have g1 : w2.cell? ⟨w.heap.size, 0, none⟩ = some (.slice (some ⟨m, 0, none⟩) xs.length xs.length) := hs2.res.cell 0
          have g2 := hs2.flag (k := k) (by rw [HBL.out]; exact hlt)
          have g3 : w2.frozen? ⟨m, k, none⟩ = false := hs2.fls.frozen k
          go_wp2_with fail
          go_roundw
          case rel =>
            refine ⟨k + 1, by omega, by go_num, by rw [HSC.out, hs]; rfl, ?_⟩
            rw [← HPUT.out, HSC.out, hs]
            exact hs2.put k _
          case measure => simp [intOf]; omega
        · go_wp2_with (go_at_call 74; refine (dir2_any _ _ ht2).mono ?_)
          first | rintro e w3 rfl hb3 | rintro e w3 ⟨rfl, hb3⟩
          have hs3 := hs2.below hb3
          have g1 : w3.cell? ⟨w.heap.size, 0, none⟩ = some (.slice (some ⟨m, 0, none⟩) xs.length xs.length) := hs3.res.cell 0
          have g2 := hs3.flag (k := k) (by rw [HBL.out]; exact hlt)
          have g3 : w3.frozen? ⟨m, k, none⟩ = false := hs3.fls.frozen k
          go_wp2_with fail
          go_roundw
          case rel =>
            refine ⟨k + 1, by omega, by go_num, by rw [HSC.out, hs]; rfl, ?_⟩
            rw [← HPUT.out, HSC.out, hs]
            exact hs3.put k _
          case measure => simp [intOf]; omega
      · obtain rfl : k = xs.length := by omega
        have hst2 : DirSt w wr m xs.length (Gl.base xs) (Gl.befores xs xs.length) := by simpa using hst
        clear hst
        have f1 : wr.cell? ⟨w.heap.size + 1, 0, none⟩ = some (.bool (Gl.base xs)) := hst2.bas.cell 0
        go_wp2_with (go_at_call 76; refine ((callsIn_wide (n := 2)).1 (backward_in Fence.wide 2 trivial rfl _ _ _ _)).mono ?_; rintro e w' ⟨rfl, rfl⟩)
        have aft : Blk (wr.alloc (.cells #[.bool (Gl.base xs)] 4)) wr.heap.size 4 [.bool (Gl.base xs)] := heap_alloc_new wr _
        have box : Blk ((wr.alloc (.cells #[.bool (Gl.base xs)] 4)).alloc (.cells #[.slice A xs.length c] 22)) (wr.heap.size + 1) 22 [.slice A xs.length c] := by
          have h := heap_alloc_new (wr.alloc (.cells #[.bool (Gl.base xs)] 4)) (.cells #[.slice A xs.length c] 22)
          rw [World.size_alloc] at h
          exact h
        have aft2 : Blk ((wr.alloc (.cells #[.bool (Gl.base xs)] 4)).alloc (.cells #[.slice A xs.length c] 22)) wr.heap.size 4 [.bool (Gl.base xs)] := (Below.heap_alloc _ _ _ (by simp)).trans aft
        have bel : Below wr.heap.size wr ((wr.alloc (.cells #[.bool (Gl.base xs)] 4)).alloc (.cells #[.slice A xs.length c] 22)) := ((Below.refl _ _).alloc (Nat.le_refl _) _).alloc (by simp) _
        have hst3 := hst2.below bel
        have hsw := hst2.old.size
        have hmw := hst2.fls.lt
        have far := hst2.far
        refine (wpIn_wide (n := 3)).1 ?_
        refine wpIn_rangeFunc_ownF rfl (by omega) (gf := 85) (lb := #[.pointer (some ⟨wr.heap.size + 1, 0, none⟩)]) rfl trivial (enters_of Tryd.func85 (by kernel_rfl) rfl)
          (backward_stops Fence.wide 2 trivial rfl (by omega) (wr.heap.size + 1) w.heap.size c A xs hx _ (by simp) (by simp; omega) (box.cell 0) (fun k hk => by
            obtain ⟨b, off, e, hb, hc⟩ := hA k hk
            exact ⟨b, off, e, hb, fun j hj => (hst3.old.cell (p := ⟨b, off + j, none⟩) hb).trans (hc j hj)⟩)) KpB.t (KpB.b (by simp; omega) (by simp)) (Below.refl _ _) (fun _ => rfl)
          (fun (pre : List (Fin xs.length)) W => ∃ bs a, Hid (pre.foldl (fun s (i : Fin xs.length) => Gl.dstep xs s (i : Nat)) (Gl.befores xs xs.length, Gl.base xs) = (bs, a)) ∧ bs.length = xs.length ∧ DirSt w W m xs.length (Gl.base xs) bs ∧ Blk W wr.heap.size 4 [.bool a] ∧ wr.heap.size + 1 < W.heap.size)
          (fun _ _ _ => False)
          (fun s A B row hs hg hr => by
            obtain ⟨bs, a, h1, h2, h3, h4, h5⟩ := hs
            exact ⟨bs, a, h1, h2, h3.nc hg (fun r e => ⟨by have := (hr r e).1; simp at this; omega, (hr r e).2⟩), h4.nc hg (fun r e => (hr r e).2), Nat.lt_of_lt_of_le h5 hg.size⟩)
          (fun _ _ _ _ _ hs _ _ => hs)
          ⟨_, _, rfl, Gl.befores_length xs _, hst3, aft2, by simp⟩
          (fun x : Fin xs.length => { tmps := #[.slice A xs.length c, undef, .pointer (some ⟨w.heap.size, 0, none⟩), .pointer (some ⟨w.heap.size + 1, 0, none⟩), .pointer (some ⟨w.heap.size + 1 + 1, 0, none⟩), .pointer (some ⟨w.heap.size + 1 + 1 + 1, 0, none⟩), .int .i64 z, .bool (Gl.scan (Gl.base xs) xs), u8, u9, .pointer (some ⟨wr.heap.size, 0, none⟩), .int .i64 ((x : Nat) : Int), .int .i64 (gi xs x), .slice A xs.length c, .func (.func 73) #[] #[], .int .i64 z, .int .i64 z, .bool (decide (0 ≤ z)), u18, u19, u20, u21, u22, u23, .slice A xs.length c, .int .i64 (xs.length : Int), .slice (some ⟨m, 0, none⟩) xs.length xs.length, .bool (Gl.base xs), .slice A xs.length c, .int .i64 (xs.length : Int), .int .i64 (xs.length : Int), .bool false, u32, u33, u34, u35, u36, u37, u38, u39, u40, u41, u42, u43, u44, u45, .bool (Gl.base xs), .slice A xs.length c, .func (.func 85) #[] #[.pointer (some ⟨wr.heap.size + 1, 0, none⟩)], .int .i64 ((x : Nat) : Int), .int .i64 (gi xs x), undef, undef, undef, undef, undef, undef, undef, undef, undef, undef, undef, undef, undef, undef, undef, undef, undef, undef], defers := [] }) ?assign ?body ?done ?stop
        case assign =>
          intro l x W K hK
          gi_wp2
          exact hK
        case body =>
          rintro l pre x W ⟨bs, a, hfo, hbl, hs, haf, hbx⟩ _
          have f1 : W.cell? ⟨w.heap.size + 1 + 1, 0, none⟩ = some (.func (.func 73) #[] #[]) := hs.fst.cell 0
          have ht1 := ht.below hs.old (Nat.le_refl _)
          have HBL := Lib.hid hbl
          clear hbl
          gi_wp2_with fail
          refine ⟨trivial, (CallsIn.inRound l (callsIn_wide.2 (dir1_any _ _ ht1))).mono ?_⟩
          rintro e w2 ⟨rfl, hb2⟩
          have hs2 := hs.below hb2
          have haf2 := haf.below hb2 haf.lt
          have g1 : w2.cell? ⟨w.heap.size, 0, none⟩ = some (.slice (some ⟨m, 0, none⟩) xs.length xs.length) := hs2.res.cell 0
          have g2 := hs2.flag (k := x) (by rw [HBL.out]; exact x.isLt)
          have g3 : w2.frozen? ⟨m, x, none⟩ = false := hs2.fls.frozen x
          have g4 : w2.cell? ⟨wr.heap.size, 0, none⟩ = some (.bool a) := haf2.cell 0
          have g6 : w2.cell? ⟨w.heap.size + 1, 0, none⟩ = some (.bool (Gl.base xs)) := hs2.bas.cell 0
          have hxl := x.isLt
          have q0 : (0 : Int) ≤ ((x : Nat) : Int) := by omega
          have q1 : ((x : Nat) : Int) < (xs.length : Int) := by omega
          have hmx : Tryd.prog.follows .mixedOrders = true := by kernel_rfl
          have hWs : w.heap.size ≤ W.heap.size := hs.old.size
          have K2 : KeepsOthers W w2 := keeps_below hb2
          have KP2 : KpB w.heap.size (wr.heap.size + 1) W w2 := kpB_below hb2 hWs hbx
          have hbx2 : wr.heap.size + 1 < w2.heap.size := Nat.lt_of_lt_of_le hbx hb2.size
          cases hst : Gl.st (gi xs x)
          · by_cases hne : gb bs x = a
            · have hne' : (!gb bs x == a) = false := by simp [hne]
              have HFO := Lib.hid (fold_snoc hfo.out (dstep_same (by rw [hst]; rfl) hne))
              clear hne
              gi_wp2_with fail
              gi_region_with_o (fail)
              all_goals gi_wp2_with fail
              all_goals exact ⟨K2.trans (KeepsOthers.drew _), kpB_drew KP2, bs, a, HFO.out, HBL.out, hs2.drew, haf2, hbx2⟩
            · have hne' : (!gb bs x == a) = true := by simp [hne]
              have HFO := Lib.hid (fold_snoc hfo.out (dstep_diff (by rw [hst]; rfl) hne))
              clear hne
              gi_wp2_with fail
              gi_region_with_o (fail)
              all_goals gi_wp2_with fail
              all_goals exact ⟨(K2.trans (KeepsOthers.setCell _ _ _)).trans (KeepsOthers.drew _), kpB_drew (kpB_set KP2 (b := m) (i := x) (by omega) (by omega) _), bs.set x (Gl.base xs), a, HFO.out, by rw [List.length_set]; exact HBL.out, (hs2.put x _).drew, haf2.other (by omega) _ _, by simpa using hbx2⟩
          · have g5 : w2.cell? ⟨w.heap.size + 1 + 1 + 1, 0, none⟩ = some (.func (.func 74) #[] #[]) := hs2.snd.cell 0
            have ht2 := ht.below hs2.old (Nat.le_refl _)
            gi_wp2_with fail
            refine ⟨trivial, (CallsIn.inRound l (callsIn_wide.2 (dir2_any _ _ ht2))).mono ?_⟩
            rintro e w3 ⟨rfl, hb3⟩
            have hs3 := hs2.below hb3
            have haf3 := haf2.below hb3 haf2.lt
            have r1 : w3.cell? ⟨wr.heap.size, 0, none⟩ = some (.bool a) := haf3.cell 0
            have r2 : w3.frozen? ⟨wr.heap.size, 0, none⟩ = false := haf3.frozen 0
            have hs4 := hs3.other (q := wr.heap.size) hmw (.bool (Gl.hb (gi xs x)))
            have haf4 : Blk (w3.setCell ⟨wr.heap.size, 0, none⟩ (.bool (Gl.hb (gi xs x)))) wr.heap.size 4 [.bool (Gl.hb (gi xs x))] := haf3.set 0 _
            have K4 : KeepsOthers W (w3.setCell ⟨wr.heap.size, 0, none⟩ (.bool (Gl.hb (gi xs x)))) := (K2.trans (keeps_below hb3)).trans (KeepsOthers.setCell _ _ _)
            have KP4 : KpB w.heap.size (wr.heap.size + 1) W (w3.setCell ⟨wr.heap.size, 0, none⟩ (.bool (Gl.hb (gi xs x)))) := kpB_set (KP2.trans (kpB_below hb3 hs2.old.size hbx2)) (b := wr.heap.size) (i := 0) (by omega) (by omega) _
            have hbx4 : wr.heap.size + 1 < (w3.setCell ⟨wr.heap.size, 0, none⟩ (.bool (Gl.hb (gi xs x)))).heap.size := by
              have := hb3.size
              simp; omega
            clear g1 g2 g3 g4 g5 g6 K2 KP2 hs3 hs2 haf2 haf3 hb3 hb2 hs haf
            have g1 : (w3.setCell ⟨wr.heap.size, 0, none⟩ (.bool (Gl.hb (gi xs x)))).cell? ⟨w.heap.size, 0, none⟩ = some (.slice (some ⟨m, 0, none⟩) xs.length xs.length) := hs4.res.cell 0
            have g2 := hs4.flag (k := x) (by rw [HBL.out]; exact x.isLt)
            have g3 : (w3.setCell ⟨wr.heap.size, 0, none⟩ (.bool (Gl.hb (gi xs x)))).frozen? ⟨m, x, none⟩ = false := hs4.fls.frozen x
            have g4 : (w3.setCell ⟨wr.heap.size, 0, none⟩ (.bool (Gl.hb (gi xs x)))).cell? ⟨wr.heap.size, 0, none⟩ = some (.bool (Gl.hb (gi xs x))) := haf4.cell 0
            have g6 : (w3.setCell ⟨wr.heap.size, 0, none⟩ (.bool (Gl.hb (gi xs x)))).cell? ⟨w.heap.size + 1, 0, none⟩ = some (.bool (Gl.base xs)) := hs4.bas.cell 0
            by_cases hne : gb bs x = Gl.hb (gi xs x)
            · have hne' : (!gb bs x == Gl.hb (gi xs x)) = false := by simp [hne]
              have HFO := Lib.hid (fold_snoc hfo.out (dstep_same (a' := Gl.hb (gi xs x)) (by rw [hst]; rfl) hne))
              clear hne
              gi_wp2_with fail
              generalize w3.setCell ⟨wr.heap.size, 0, none⟩ (.bool (Gl.hb (gi xs x))) = w4 at *
              gi_region_with_o (fail)
              all_goals gi_wp2_with fail
              all_goals exact ⟨K4.trans (KeepsOthers.drew _), kpB_drew KP4, bs, _, HFO.out, HBL.out, hs4.drew, haf4, hbx4⟩
            · have hne' : (!gb bs x == Gl.hb (gi xs x)) = true := by simp [hne]
              have HFO := Lib.hid (fold_snoc hfo.out (dstep_diff (a' := Gl.hb (gi xs x)) (by rw [hst]; rfl) hne))
              clear hne
              gi_wp2_with fail
              generalize w3.setCell ⟨wr.heap.size, 0, none⟩ (.bool (Gl.hb (gi xs x))) = w4 at *
              gi_region_with_o (fail)
              all_goals gi_wp2_with fail
              all_goals exact ⟨(K4.trans (KeepsOthers.setCell _ _ _)).trans (KeepsOthers.drew _), kpB_drew (kpB_set KP4 (b := m) (i := x) (by omega) (by omega) _), bs.set x (Gl.base xs), _, HFO.out, by rw [List.length_set]; exact HBL.out, (hs4.put x _).drew, haf4.other (by omega) _ _, by simpa using hbx4⟩
        case done =>
          rintro D ys W hD rfl ⟨bs, a, hfo, hbl, hs, haf, hbx⟩ hK
          have hend : bs = Gl.lefts xs := by
            have h1 := hfo.out
            rw [back_fold] at h1
            injection h1 with h1 _
            exact h1.symm
          subst hend
          have p1 : W.cell? ⟨w.heap.size, 0, none⟩ = some (.slice (some ⟨m, 0, none⟩) xs.length xs.length) := hs.res.cell 0
          have p2 : W.cell? ⟨w.heap.size + 1, 0, none⟩ = some (.bool (Gl.base xs)) := hs.bas.cell 0
          have p3 : W.frozen? ⟨w.heap.size, 0, none⟩ = false := hs.res.frozen 0
          have p4 : W.frozen? ⟨w.heap.size + 1, 0, none⟩ = false := hs.bas.frozen 0
          go_wp2_with fail
          refine wp_nopanic ?_
          go_region
          all_goals go_wp2_with fail
          have hs5 : DirSt w (((W.setCell ⟨w.heap.size, 0, none⟩ (.slice (some ⟨m, 0, none⟩) xs.length xs.length)).setCell ⟨w.heap.size + 1, 0, none⟩ (.bool (Gl.base xs))).drew) m xs.length (Gl.base xs) (Gl.lefts xs) :=
            ⟨(hs.res.set 0 _).other (by omega) _ _, (hs.bas.other (by omega) _ _).set 0 _, (hs.fst.other (by omega) _ _).other (by omega) _ _, (hs.snd.other (by omega) _ _).other (by omega) _ _, (hs.fls.other (by omega) _ _).other (by omega) _ _, hs.far,
              ((hs.old.setCell (p := ⟨w.heap.size, 0, none⟩) (Nat.le_refl _) _).setCell (p := ⟨w.heap.size + 1, 0, none⟩) (by show w.heap.size ≤ w.heap.size + 1; omega) _).drew⟩
          have hK5 : (((W.setCell ⟨w.heap.size, 0, none⟩ (.slice (some ⟨m, 0, none⟩) xs.length xs.length)).setCell ⟨w.heap.size + 1, 0, none⟩ (.bool (Gl.base xs))).drew).heap[D]? = some (.deferred (some [])) := by
            simp at hD
            exact ((Below.heap_setCell _ _ _ _ (by show D ≠ w.heap.size + 1; omega)).trans (Below.heap_setCell _ _ _ _ (by show D ≠ w.heap.size; omega))).trans hK
          generalize ((W.setCell ⟨w.heap.size, 0, none⟩ (.slice (some ⟨m, 0, none⟩) xs.length xs.length)).setCell ⟨w.heap.size + 1, 0, none⟩ (.bool (Gl.base xs))).drew = W5 at *
          have hg5 : W5.grownBy (W5.putObj D (.deferred none)) (some D) := grownBy_putObj' _ D (.deferred none)
          have hs6 := hs5.nc hg5 (fun r e => by cases e; simp at hD; exact ⟨by omega, _, hK5, rfl⟩)
          have hc5 : (W5.putObj D (.deferred none)).cell? ⟨w.heap.size, 0, none⟩ = some (.slice (some ⟨m, 0, none⟩) xs.length xs.length) := hs6.res.cell 0
          have hc6 : (W5.putObj D (.deferred none)).cell? ⟨w.heap.size + 1, 0, none⟩ = some (.bool (Gl.base xs)) := hs6.bas.cell 0
          refine ⟨by simp, .inl ⟨_, _, rfl, run_takeDeferred hK5, ?_⟩⟩
          refine ⟨.tuple #[.slice (some ⟨m, 0, none⟩) xs.length xs.length, .bool (Gl.base xs)], ?_, hs6.old, m, by omega, hs6.fls, rfl⟩
          simp [results, Tryd.f54, go_sem, hc5, hc6]
        case stop =>
          rintro D c pre W _ _ h _
          exact h.elim
end Go.Proofs.YtlcjfphhogcenaaDoor
