/-
  feature.Check at a valid survey without arcs, its features with names: no error.
-/
import Derived.Test.YtcbobceggjndlaaGreatDoorSvK
import Derived.Test.YtcbobceggjndlaaGreatDoorNamb
import Derived.Laws.EntriesVeiled
set_option linter.unusedVariables false
set_option linter.unusedSimpArgs false
namespace Go.Proofs.YtcbobceggjndlaaGreatDoor
open Go.RowKit

theorem ncheck_is (a : ByteArray) (w : World) (n : Int) (hn : Nm.check a.data.toList = n) (ht : Gl.Tab w) (hm : MaxOk w) (ha : a.size ≤ 200) :
    Calls Tryz.prog 13 #[.string a] w fun e w' => e = .returned (.int .i64 n) ∧ Below w.heap.size w w' := by
  subst hn
  exact ncheck_any a w ht hm (by omega)
/-- A valid name, or none. -/
def NameOk (s : ByteArray) : Prop := s = ⟨#[]⟩ ∨ (0 < s.size ∧ s.size ≤ 200 ∧ Nm.check s.data.toList = 0)
set_option maxHeartbeats 1000000 in
theorem rule4_name (f : Ftr) (w : World) (h : NameOk f.name) (ht : Gl.Tab w) (hm : MaxOk w) : Calls Tryz.prog 47 #[fv f] w fun e w' => e = .returned (.bool false) ∧ Below w.heap.size w w' := by
  rcases h with h | ⟨h1, h2, h3⟩
  · exact rule4_ok f w h
  · obtain ⟨fid, fkind, fcls, s, pA, pn, pc, parts⟩ := f
    dsimp only at h1 h2 h3
    unfold fv
    dsimp only
    have HC := Lib.hid h3
    have e1 : s.toList ≠ [] := by
      rw [str_toList]
      intro e
      have : s.data.toList.length = 0 := by rw [e]; rfl
      have h1' : 0 < s.data.toList.length := h1
      omega
    have e2 : (s.toList == []) = false := by simpa using e1
    have e3 : s.toList.isEmpty = false := by simpa using e1
    have b1 : Below w.heap.size w (w.alloc (.cells #[.int .i64 fid, .int .i64 fkind, .int .i64 fcls, .string s, .slice pA pn pc] 40)) := (Below.refl _ _).alloc (Nat.le_refl _) _
    clear h3 h1
    go_enter Tryz.func47, Tryz.ntmps47
    go_wp2_with fail
    refine (ncheck_is s _ 0 HC.out (ht.below b1 (Nat.le_refl _)) (hm.below b1 (Nat.le_refl _)) h2).mono ?_
    first | rintro e w1 rfl hb1 | rintro e w1 ⟨rfl, hb1⟩
    go_wp2_with fail
    go_ret
    exact ⟨rfl, b1.trans (hb1.mono b1.size)⟩
/-- The features of a valid survey without arcs: points at nodes of the plan. -/
structure GoodF (ns : List Nd) (fs : List Ftr) : Prop where
  few : fs.length ≤ 128
  one : ∀ k, k < fs.length → (ft fs k).pn = 1
  idr : ∀ k, k < fs.length → 1 ≤ (ft fs k).id ∧ (ft fs k).id ≤ 1073741824 ∧ 1 ≤ (ft fs k).cls ∧ (ft fs k).cls ≤ 9
  kind : ∀ k, k < fs.length → (ft fs k).kind = 1 ∨ (ft fs k).kind = 2 ∨ (ft fs k).kind = 8
  nam : ∀ k, k < fs.length → NameOk (ft fs k).name
  part : ∀ k, k < fs.length → PartIn ns (ft fs k)
  asc : ∀ k, 0 < k → k < fs.length → (ft fs (k - 1)).id < (ft fs k).id
  alone : ∀ j k, j < k → k < fs.length → gi (ft fs j).parts 0 ≠ gi (ft fs k).parts 0

section
variable {ns : List Nd} {fs : List Ftr} {A AF : Option Addr} {n c nF cF : Nat}
theorem plainRule (g : Nat) (lb : Array Value) (eg : ∀ args w, (callFunc g args).run Tryz.prog w = .ok (.enter g args) w) (W : World) (hn : fs.length = nF) (hx : nF ≤ 128) (hr : RF W AF fs)
    (h : ∀ k W', k < nF → Below W.heap.size W W' → Calls Tryz.prog g (#[fv (ft fs k)] ++ lb) W' fun e W'' => e = .returned (.bool false) ∧ Below W'.heap.size W' W'') :
    Calls Tryz.prog 52 #[.slice AF nF cF, .func (.func g) #[] lb] W fun e W' => e = .returned (.bool false) ∧ Below W.heap.size W W' :=
  containsF_none g lb eg AF cF nF fs W hn (by omega) (fun _ W' => Below W.heap.size W W') (Below.refl _ _) (fun _ W' hb => hr.below hb) (fun k W' hk hb => (h k W' hk hb).mono (fun _ _ ⟨he, hb2⟩ => ⟨he, hb.trans (hb2.mono hb.size)⟩))
theorem disRule (bi bs : Nat) (w0 W : World) (hn : fs.length = nF) (hx : nF ≤ 128) (hr : RF w0 AF fs) (hg : GoodF ns fs) (hbi : Bk W bi 3 #[.int .i64 0]) (hbs : SB W bs A n c AF nF cF) (hne : bi ≠ bs) (hbW : Below w0.heap.size w0 W) (hB : w0.heap.size ≤ bi) :
    Calls Tryz.prog 52 #[.slice AF nF cF, .func (.func 78) #[] #[.pointer (some ⟨bi, 0, none⟩), .pointer (some ⟨bs, 0, none⟩)]] W fun e W' => e = .returned (.bool false) ∧ Below w0.heap.size w0 W' ∧ W.grownBy W' (some bi) := by
  refine (containsF_none 78 _ (enters_of Tryz.func78 (by kernel_rfl) rfl) AF cF nF fs W hn (by omega) (fun k W' => Bk W' bi 3 #[.int .i64 (k : Int)] ∧ SB W' bs A n c AF nF cF ∧ Below w0.heap.size w0 W' ∧ W.grownBy W' (some bi)) ⟨hbi, hbs, hbW, grown_of (Below.refl _ _) _⟩ (fun _ W' h => hr.below h.2.2.1) (fun k W' hk h => ?_)).mono (fun _ _ ⟨he, h⟩ => ⟨he, h.2.2.1, h.2.2.2⟩)
  obtain ⟨h1, h2, h3, h4⟩ := h
  refine (dis1_ok fs A n c AF nF cF bi bs k w0 W' hn (by omega) hk h1 h2 hne hr h3 hB (fun h0 => hg.asc k h0 (by omega)) (hg.one k (by omega))).mono ?_
  rintro e W'' ⟨rfl, g1, g2, g3, g4⟩
  exact ⟨rfl, by rw [show ((k + 1 : Nat) : Int) = (k : Int) + 1 by omega]; exact g1, g2, g3, grown_trans h4 g4⟩
theorem sharedRule (bm bv : Nat) (w0 W : World) (hn : fs.length = nF) (hx : nF ≤ 128) (hr : RF w0 AF fs) (hg : GoodF ns fs) (hi : IdsIn ns) (hU : ∀ ps, Used bm bv ps 0 W) (hbW : Below w0.heap.size w0 W) (hB : w0.heap.size ≤ bm) :
    Calls Tryz.prog 52 #[.slice AF nF cF, .func (.func 85) #[] #[.pointer (some ⟨bv, 0, none⟩)]] W fun e W' => e = .returned (.bool false) ∧ Below w0.heap.size w0 W' := by
  refine (containsF_none 85 _ (enters_of Tryz.func85 (by kernel_rfl) rfl) AF cF nF fs W hn (by omega) (fun k W' => Used bm bv (fun j => gi (ft fs j).parts 0) k W' ∧ Below w0.heap.size w0 W') ⟨hU _, hbW⟩ (fun _ W' h => hr.below h.2) (fun k W' hk h => ?_)).mono (fun _ _ ⟨he, h⟩ => ⟨he, h.2⟩)
  obtain ⟨h1, h2⟩ := h
  obtain ⟨i, p, hi1, hp, hid, _⟩ := hg.part k (by omega)
  have hrange := hi i hi1
  have hgp : gi (ft fs k).parts 0 = p := by rw [hp]; rfl
  refine (shared1_ok (ft fs k) p bm bv k (fun j => gi (ft fs j).parts 0) w0 W' h1 (by omega) hp (hg.one k (by omega)) hgp (fun j hj => by rw [← hgp]; exact hg.alone j k hj (by omega)) (by omega) (by omega) ((hr.below h2).2 k (by omega)).1 (hg.kind k (by omega)) h2 hB).mono ?_
  rintro e W'' ⟨rfl, g1, g2, _⟩
  exact ⟨rfl, g1, g2⟩
theorem cf1 (W : World) (hn : fs.length = nF) (hx : nF ≤ 128) (hr : RF W AF fs) (hg : GoodF ns fs) :
    Calls Tryz.prog 52 #[.slice AF nF cF, .func (.func 42) #[] #[]] W fun e W' => e = .returned (.bool false) ∧ Below W.heap.size W W' := by
  refine plainRule 42 #[] (enters_of Tryz.func42 (by kernel_rfl) rfl) W hn hx hr (fun k W' hk _ => ?_)
  have hk' : k < fs.length := by omega
  have h := rule1_ok (ft fs k) W' (by rw [hg.one k hk']; decide)
  exact h
theorem cf2 (W : World) (hn : fs.length = nF) (hx : nF ≤ 128) (hr : RF W AF fs) (hg : GoodF ns fs) :
    Calls Tryz.prog 52 #[.slice AF nF cF, .func (.func 44) #[] #[]] W fun e W' => e = .returned (.bool false) ∧ Below W.heap.size W W' := by
  refine plainRule 44 #[] (enters_of Tryz.func44 (by kernel_rfl) rfl) W hn hx hr (fun k W' hk _ => ?_)
  have hk' : k < fs.length := by omega
  have h := rule2_ok (ft fs k) W' (hg.idr k hk').1 (hg.idr k hk').2.1 (hg.idr k hk').2.2.1 (hg.idr k hk').2.2.2
  exact h
theorem cf3 (W : World) (hn : fs.length = nF) (hx : nF ≤ 128) (hr : RF W AF fs) (hg : GoodF ns fs) :
    Calls Tryz.prog 52 #[.slice AF nF cF, .func (.func 45) #[] #[]] W fun e W' => e = .returned (.bool false) ∧ Below W.heap.size W W' := by
  refine plainRule 45 #[] (enters_of Tryz.func45 (by kernel_rfl) rfl) W hn hx hr (fun k W' hk _ => ?_)
  have hk' : k < fs.length := by omega
  have h := rule3_ok (ft fs k) W' (hg.kind k hk')
  exact h
theorem cf4 (W : World) (hn : fs.length = nF) (hx : nF ≤ 128) (hr : RF W AF fs) (hg : GoodF ns fs) (ht : Gl.Tab W) (hm : MaxOk W) :
    Calls Tryz.prog 52 #[.slice AF nF cF, .func (.func 47) #[] #[]] W fun e W' => e = .returned (.bool false) ∧ Below W.heap.size W W' := by
  refine plainRule 47 #[] (enters_of Tryz.func47 (by kernel_rfl) rfl) W hn hx hr (fun k W' hk hb => ?_)
  have hk' : k < fs.length := by omega
  have h := rule4_name (ft fs k) W' (hg.nam k hk') (ht.below hb (Nat.le_refl _)) (hm.below hb (Nat.le_refl _))
  exact h
theorem cf5 (W : World) (hn : fs.length = nF) (hx : nF ≤ 128) (hr : RF W AF fs) (hg : GoodF ns fs) :
    Calls Tryz.prog 52 #[.slice AF nF cF, .func (.func 48) #[] #[]] W fun e W' => e = .returned (.bool false) ∧ Below W.heap.size W W' := by
  refine plainRule 48 #[] (enters_of Tryz.func48 (by kernel_rfl) rfl) W hn hx hr (fun k W' hk _ => ?_)
  have hk' : k < fs.length := by omega
  have h := rule5_ok (ft fs k) W' (hg.kind k hk') (hg.one k hk')
  exact h
theorem cf6 (b0 : Nat) (W : World) (hnn : ns.length = n) (hn : fs.length = nF) (hx : nF ≤ 128) (hr : RF W AF fs) (hA : RN W A ns) (hgn : Good ns) (hg : GoodF ns fs) (hs : SB W b0 A n c AF nF cF) :
    Calls Tryz.prog 52 #[.slice AF nF cF, .func (.func 49) #[] #[.pointer (some ⟨b0, 0, none⟩)]] W fun e W' => e = .returned (.bool false) ∧ Below W.heap.size W W' := by
  refine plainRule 49 #[.pointer (some ⟨b0, 0, none⟩)] (enters_of Tryz.func49 (by kernel_rfl) rfl) W hn hx hr (fun k W' hk hb => ?_)
  have hk' : k < fs.length := by omega
  have h := rule6_ok (ft fs k) A n c AF nF cF ns b0 W' hnn (by rw [← hnn]; exact hgn.few) (hA.below hb) ((hr.below hb).2 k hk').1 (hr.2 k hk').2 (hg.kind k hk') (hg.part k hk') (SB.below hs hb (Bk.lt hs))
  exact h
end

/-- The table of the rules. -/
def rulesV (bs bi b0 bv : Nat) : Array Value := #[.func (.func 42) #[] #[], .int .i64 3,
  .func (.func 78) #[] #[.pointer (some ⟨bi, 0, none⟩), .pointer (some ⟨bs, 0, none⟩)], .int .i64 10,
  .func (.func 44) #[] #[], .int .i64 2, .func (.func 45) #[] #[], .int .i64 9, .func (.func 47) #[] #[], .int .i64 14, .func (.func 48) #[] #[], .int .i64 1,
  .func (.func 49) #[] #[.pointer (some ⟨b0, 0, none⟩)], .int .i64 7, .func (.func 85) #[] #[.pointer (some ⟨bv, 0, none⟩)], .int .i64 13]

theorem rulesV_at (bs bi b0 bv : Nat) : (rulesV bs bi b0 bv).toList = [.func (.func 42) #[] #[], .int .i64 3,
  .func (.func 78) #[] #[.pointer (some ⟨bi, 0, none⟩), .pointer (some ⟨bs, 0, none⟩)], .int .i64 10,
  .func (.func 44) #[] #[], .int .i64 2, .func (.func 45) #[] #[], .int .i64 9, .func (.func 47) #[] #[], .int .i64 14, .func (.func 48) #[] #[], .int .i64 1,
  .func (.func 49) #[] #[.pointer (some ⟨b0, 0, none⟩)], .int .i64 7, .func (.func 85) #[] #[.pointer (some ⟨bv, 0, none⟩)], .int .i64 13] := rfl
theorem Bk.at {w : World} {b : Nat} {t : TypeId} {cs : Array Value} {l : List Value} (h : Bk w b t cs) (hl : cs.toList = l) (i : Nat) : w.cell? ⟨b, i, none⟩ = l[i]? := by
  rw [h.cell, ← hl, Array.getElem?_toList]
/-- What lies in memory while the rules are asked. -/
structure St (w : World) (b0 bs bi bm bv br : Nat) (A : Option Addr) (n c : Nat) (AF : Option Addr) (nF cF : Nat) (W : World) : Prop where
  s : SB W b0 A n c AF nF cF
  r : Bk W br 84 (rulesV bs bi b0 bv)
  b : Below w.heap.size w W
  u : ∀ ps, Used bm bv ps 0 W
theorem Used.below {bm bv k : Nat} {ps : Nat → Int} {W W' : World} (h : Used bm bv ps k W) (hb : Below W.heap.size W W') : Used bm bv ps k W' := by
  obtain ⟨h1, h2, D, h3, h4⟩ := h
  exact ⟨h1.below hb h1.lt, h2, D, h3.kept (grown_of hb none) (by simp), h4⟩
theorem Used.grown {bm bv k bi : Nat} {ps : Nat → Int} {W W' : World} (h : Used bm bv ps k W) (hg : W.grownBy W' (some bi)) (h5 : bi ≠ bm) (h6 : bi ≠ bv) : Used bm bv ps k W' := by
  obtain ⟨h1, h2, D, h3, h4⟩ := h
  exact ⟨Bk.grown h1 hg (fun e => h6 (by injection e with e; exact e.symm)), h2, D, h3.kept hg (fun e => h5 (by injection e with e; exact e.symm)), h4⟩
theorem St.step {w : World} {b0 bs bi bm bv br : Nat} {A : Option Addr} {n c : Nat} {AF : Option Addr} {nF cF : Nat} {W W' : World} (h : St w b0 bs bi bm bv br A n c AF nF cF W) (hb : Below W.heap.size W W') : St w b0 bs bi bm bv br A n c AF nF cF W' :=
  ⟨SB.below h.s hb (Bk.lt h.s), h.r.below hb h.r.lt, h.b.trans (hb.mono h.b.size), fun ps => (h.u ps).below hb⟩
theorem St.grown {w : World} {b0 bs bi bm bv br : Nat} {A : Option Addr} {n c : Nat} {AF : Option Addr} {nF cF : Nat} {W W' : World} (h : St w b0 bs bi bm bv br A n c AF nF cF W) (hb : Below w.heap.size w W') (hg : W.grownBy W' (some bi)) (h1 : bi ≠ b0) (h2 : bi ≠ br) (h3 : bi ≠ bm) (h4 : bi ≠ bv) : St w b0 bs bi bm bv br A n c AF nF cF W' :=
  ⟨Bk.grown h.s hg (fun e => h1 (by injection e with e; exact e.symm)), Bk.grown h.r hg (fun e => h2 (by injection e with e; exact e.symm)), hb, fun ps => (h.u ps).grown hg h3 h4⟩

set_option maxHeartbeats 16000000 in
theorem fcheck_ok (ns : List Nd) (fs : List Ftr) (A AF : Option Addr) (n c nF cF : Nat) (w : World) (hn : ns.length = n) (hc : n ≤ c) (hA : RN w A ns) (hg : Good ns) (hnF : fs.length = nF) (hr : RF w AF fs) (hf : GoodF ns fs) (ht : Gl.Tab w) (hm : MaxOk w) :
    Calls Tryz.prog 19 #[.agg #[.slice A n c, .slice none 0 0, .slice none 0 0, .slice AF nF cF]] w fun e w' => e = .returned (.int .i64 0) ∧ Below w.heap.size w w' := by
  have hx : nF ≤ 128 := by rw [← hnF]; exact hf.few
  have HG := Lib.hid hg
  have HF := Lib.hid hf
  have HT := Lib.hid ht
  have HM := Lib.hid hm
  clear hg hf ht hm
  go_enter Tryz.func19, Tryz.ntmps19
  have S0 : SB (w.alloc (.cells #[.slice A n c, .slice none 0 0, .slice none 0 0, .slice AF nF cF] 43)) w.heap.size A n c AF nF cF := Bk.new _ _ _
  have b0 : Below w.heap.size w (w.alloc (.cells #[.slice A n c, .slice none 0 0, .slice none 0 0, .slice AF nF cF] 43)) := (Below.refl _ _).alloc (Nat.le_refl _) _
  go_wp2_with fail
  refine (gcheck_ok A c n ns _ hn hc (hA.below b0) HG.out).mono ?_
  first | rintro e w1 rfl hb1 | rintro e w1 ⟨rfl, hb1⟩
  have S1 := SB.below S0 hb1 (Bk.lt S0)
  have b1 : Below w.heap.size w w1 := b0.trans (hb1.mono (by simp))
  clear S0 b0 hb1
  have s0 := Bk.cell S1 0
  have s1 := Bk.cell S1 1
  have s2 := Bk.cell S1 2
  have s3 := Bk.cell S1 3
  simp only [List.getElem?_toArray, List.getElem?_cons_zero, List.getElem?_cons_succ] at s0 s1 s2 s3
  go_wp2_with fail
  refine (disordered_ok A n c AF nF cF _).mono ?_
  rintro e w2 ⟨rfl, hb2, hbi, hbs⟩
  have S2 := SB.below S1 hb2 (Bk.lt S1)
  have b2 : Below w.heap.size w w2 := b1.trans (hb2.mono b1.size)
  have hl1 := Bk.lt S1
  clear s0 s1 s2 s3
  go_wp2_with fail
  refine (shared_ok _).mono ?_
  rintro e w3 ⟨rfl, hb3, hU⟩
  have S3 := SB.below S2 hb3 (Bk.lt S2)
  have b3 : Below w.heap.size w w3 := b2.trans (hb3.mono b2.size)
  have hbi3 := hbi.below hb3 hbi.lt
  have hbs3 := SB.below hbs hb3 (Bk.lt hbs)
  go_wp2_with fail
  obtain ⟨W, hW⟩ : ∃ W, w3.alloc (.cells (rulesV w1.heap.size (w1.heap.size + 1) w.heap.size (w2.heap.size + 1)) 84) = W := ⟨_, rfl⟩
  have hbW : Below w3.heap.size w3 W := by rw [← hW]; exact (Below.refl _ _).alloc (Nat.le_refl _) _
  have T : St w w.heap.size w1.heap.size (w1.heap.size + 1) w2.heap.size (w2.heap.size + 1) w3.heap.size A n c AF nF cF W :=
    ⟨SB.below S3 hbW (Bk.lt S3), by rw [← hW]; exact Bk.new _ _ _, b3.trans (hbW.mono b3.size), fun ps => (hU ps).below hbW⟩
  have KI := hbi3.below hbW hbi3.lt
  have KS := SB.below hbs3 hbW (Bk.lt hbs3)
  have z1 := b1.size
  have z2 := hb2.size
  have z3 := hb3.size
  have y1 := Bk.lt hbs
  have y2 := hbi.lt
  have y3 := Bk.lt S1
  have y4 := ((hU (fun _ => 0)).1).lt
  rw [show w3.alloc (.cells #[.func (.func 42) #[] #[], .int .i64 3, .func (.func 78) #[] #[.pointer (some ⟨w1.heap.size + 1, 0, none⟩), .pointer (some ⟨w1.heap.size, 0, none⟩)], .int .i64 10, .func (.func 44) #[] #[], .int .i64 2, .func (.func 45) #[] #[], .int .i64 9, .func (.func 47) #[] #[], .int .i64 14, .func (.func 48) #[] #[], .int .i64 1, .func (.func 49) #[] #[.pointer (some ⟨w.heap.size, 0, none⟩)], .int .i64 7, .func (.func 85) #[] #[.pointer (some ⟨w2.heap.size + 1, 0, none⟩)], .int .i64 13] 84) = W from hW]
  clear hW hbW S1 S2 S3 b2 b3 hbi hbs hbi3 hbs3 hU hb2 hb3 b1
  refine wp_loop_rounds 9 ?_
  have ca : W.cell? ⟨w3.heap.size, 0, none⟩ = some (.func (.func 42) #[] #[]) := T.r.at (rulesV_at _ _ _ _) 0
  have cb : W.cell? ⟨w3.heap.size, 1, none⟩ = some (.int .i64 3) := T.r.at (rulesV_at _ _ _ _) 1
  have hbA : Below W.heap.size W (W.alloc (.cells #[.func (.func 42) #[] #[], .int .i64 3] 84)) := (Below.refl _ _).alloc (Nat.le_refl _) _
  replace T := T.step hbA
  have s3 := Bk.cell T.s 3
  simp only [List.getElem?_toArray, List.getElem?_cons_zero, List.getElem?_cons_succ] at s3
  rw [rounds_succ]
  go_wp2_with fail
  refine (cf1 (ns := ns) _ hnF hx (hr.below T.b) HF.out).mono ?_
  first | rintro e V1 rfl hbB | rintro e V1 ⟨rfl, hbB⟩
  replace T := T.step hbB
  replace KI := KI.below hbA KI.lt
  replace KS := SB.below KS hbA (Bk.lt KS)
  replace KI := KI.below hbB KI.lt
  replace KS := SB.below KS hbB (Bk.lt KS)
  clear ca cb s3 hbA hbB
  go_wp2_with fail
  have ca : V1.cell? ⟨w3.heap.size, 2, none⟩ = some (.func (.func 78) #[] #[.pointer (some ⟨w1.heap.size + 1, 0, none⟩), .pointer (some ⟨w1.heap.size, 0, none⟩)]) := T.r.at (rulesV_at _ _ _ _) 2
  have cb : V1.cell? ⟨w3.heap.size, 3, none⟩ = some (.int .i64 10) := T.r.at (rulesV_at _ _ _ _) 3
  have hbA : Below V1.heap.size V1 (V1.alloc (.cells #[.func (.func 78) #[] #[.pointer (some ⟨w1.heap.size + 1, 0, none⟩), .pointer (some ⟨w1.heap.size, 0, none⟩)], .int .i64 10] 84)) := (Below.refl _ _).alloc (Nat.le_refl _) _
  replace T := T.step hbA
  have s3 := Bk.cell T.s 3
  simp only [List.getElem?_toArray, List.getElem?_cons_zero, List.getElem?_cons_succ] at s3
  rw [rounds_succ]
  go_wp2_with fail
  refine (disRule (ns := ns) (A := A) (n := n) (c := c) _ _ w _ hnF hx hr HF.out (KI.below hbA KI.lt) (SB.below KS hbA (Bk.lt KS)) (by omega) T.b (by omega)).mono ?_
  rintro e V2 ⟨rfl, hbB, hgB⟩
  replace T := T.grown hbB hgB (by omega) (by omega) (by omega) (by omega)
  clear ca cb s3 hbA hbB hgB KI KS
  go_wp2_with fail
  have ca : V2.cell? ⟨w3.heap.size, 4, none⟩ = some (.func (.func 44) #[] #[]) := T.r.at (rulesV_at _ _ _ _) 4
  have cb : V2.cell? ⟨w3.heap.size, 5, none⟩ = some (.int .i64 2) := T.r.at (rulesV_at _ _ _ _) 5
  have hbA : Below V2.heap.size V2 (V2.alloc (.cells #[.func (.func 44) #[] #[], .int .i64 2] 84)) := (Below.refl _ _).alloc (Nat.le_refl _) _
  replace T := T.step hbA
  have s3 := Bk.cell T.s 3
  simp only [List.getElem?_toArray, List.getElem?_cons_zero, List.getElem?_cons_succ] at s3
  rw [rounds_succ]
  go_wp2_with fail
  refine (cf2 (ns := ns) _ hnF hx (hr.below T.b) HF.out).mono ?_
  first | rintro e V3 rfl hbB | rintro e V3 ⟨rfl, hbB⟩
  replace T := T.step hbB
  clear ca cb s3 hbA hbB
  go_wp2_with fail
  have ca : V3.cell? ⟨w3.heap.size, 6, none⟩ = some (.func (.func 45) #[] #[]) := T.r.at (rulesV_at _ _ _ _) 6
  have cb : V3.cell? ⟨w3.heap.size, 7, none⟩ = some (.int .i64 9) := T.r.at (rulesV_at _ _ _ _) 7
  have hbA : Below V3.heap.size V3 (V3.alloc (.cells #[.func (.func 45) #[] #[], .int .i64 9] 84)) := (Below.refl _ _).alloc (Nat.le_refl _) _
  replace T := T.step hbA
  have s3 := Bk.cell T.s 3
  simp only [List.getElem?_toArray, List.getElem?_cons_zero, List.getElem?_cons_succ] at s3
  rw [rounds_succ]
  go_wp2_with fail
  refine (cf3 (ns := ns) _ hnF hx (hr.below T.b) HF.out).mono ?_
  first | rintro e V4 rfl hbB | rintro e V4 ⟨rfl, hbB⟩
  replace T := T.step hbB
  clear ca cb s3 hbA hbB
  go_wp2_with fail
  have ca : V4.cell? ⟨w3.heap.size, 8, none⟩ = some (.func (.func 47) #[] #[]) := T.r.at (rulesV_at _ _ _ _) 8
  have cb : V4.cell? ⟨w3.heap.size, 9, none⟩ = some (.int .i64 14) := T.r.at (rulesV_at _ _ _ _) 9
  have hbA : Below V4.heap.size V4 (V4.alloc (.cells #[.func (.func 47) #[] #[], .int .i64 14] 84)) := (Below.refl _ _).alloc (Nat.le_refl _) _
  replace T := T.step hbA
  have s3 := Bk.cell T.s 3
  simp only [List.getElem?_toArray, List.getElem?_cons_zero, List.getElem?_cons_succ] at s3
  rw [rounds_succ]
  go_wp2_with fail
  refine (cf4 (ns := ns) _ hnF hx (hr.below T.b) HF.out (HT.out.below T.b (Nat.le_refl _)) (HM.out.below T.b (Nat.le_refl _))).mono ?_
  first | rintro e V5 rfl hbB | rintro e V5 ⟨rfl, hbB⟩
  replace T := T.step hbB
  clear ca cb s3 hbA hbB
  go_wp2_with fail
  have ca : V5.cell? ⟨w3.heap.size, 10, none⟩ = some (.func (.func 48) #[] #[]) := T.r.at (rulesV_at _ _ _ _) 10
  have cb : V5.cell? ⟨w3.heap.size, 11, none⟩ = some (.int .i64 1) := T.r.at (rulesV_at _ _ _ _) 11
  have hbA : Below V5.heap.size V5 (V5.alloc (.cells #[.func (.func 48) #[] #[], .int .i64 1] 84)) := (Below.refl _ _).alloc (Nat.le_refl _) _
  replace T := T.step hbA
  have s3 := Bk.cell T.s 3
  simp only [List.getElem?_toArray, List.getElem?_cons_zero, List.getElem?_cons_succ] at s3
  rw [rounds_succ]
  go_wp2_with fail
  refine (cf5 (ns := ns) _ hnF hx (hr.below T.b) HF.out).mono ?_
  first | rintro e V6 rfl hbB | rintro e V6 ⟨rfl, hbB⟩
  replace T := T.step hbB
  clear ca cb s3 hbA hbB
  go_wp2_with fail
  have ca : V6.cell? ⟨w3.heap.size, 12, none⟩ = some (.func (.func 49) #[] #[.pointer (some ⟨w.heap.size, 0, none⟩)]) := T.r.at (rulesV_at _ _ _ _) 12
  have cb : V6.cell? ⟨w3.heap.size, 13, none⟩ = some (.int .i64 7) := T.r.at (rulesV_at _ _ _ _) 13
  have hbA : Below V6.heap.size V6 (V6.alloc (.cells #[.func (.func 49) #[] #[.pointer (some ⟨w.heap.size, 0, none⟩)], .int .i64 7] 84)) := (Below.refl _ _).alloc (Nat.le_refl _) _
  replace T := T.step hbA
  have s3 := Bk.cell T.s 3
  simp only [List.getElem?_toArray, List.getElem?_cons_zero, List.getElem?_cons_succ] at s3
  rw [rounds_succ]
  go_wp2_with fail
  refine (cf6 (ns := ns) (A := A) (n := n) (c := c) _ _ hn hnF hx (hr.below T.b) (hA.below T.b) HG.out HF.out T.s).mono ?_
  first | rintro e V7 rfl hbB | rintro e V7 ⟨rfl, hbB⟩
  replace T := T.step hbB
  clear ca cb s3 hbA hbB
  go_wp2_with fail
  have ca : V7.cell? ⟨w3.heap.size, 14, none⟩ = some (.func (.func 85) #[] #[.pointer (some ⟨w2.heap.size + 1, 0, none⟩)]) := T.r.at (rulesV_at _ _ _ _) 14
  have cb : V7.cell? ⟨w3.heap.size, 15, none⟩ = some (.int .i64 13) := T.r.at (rulesV_at _ _ _ _) 15
  have hbA : Below V7.heap.size V7 (V7.alloc (.cells #[.func (.func 85) #[] #[.pointer (some ⟨w2.heap.size + 1, 0, none⟩)], .int .i64 13] 84)) := (Below.refl _ _).alloc (Nat.le_refl _) _
  replace T := T.step hbA
  have s3 := Bk.cell T.s 3
  simp only [List.getElem?_toArray, List.getElem?_cons_zero, List.getElem?_cons_succ] at s3
  rw [rounds_succ]
  go_wp2_with fail
  refine (sharedRule (ns := ns) _ _ w _ hnF hx hr HF.out HG.out.inn T.u T.b (by omega)).mono ?_
  first | rintro e V8 rfl hbB | rintro e V8 ⟨rfl, hbB⟩
  clear ca cb s3 hbA T
  go_wp2_with fail
  rw [rounds_succ]
  go_wp2_with fail
  go_ret
  exact ⟨rfl, hbB⟩
end Go.Proofs.YtcbobceggjndlaaGreatDoor
