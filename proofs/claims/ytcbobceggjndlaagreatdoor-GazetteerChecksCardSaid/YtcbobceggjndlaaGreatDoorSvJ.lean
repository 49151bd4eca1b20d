/-
  The rules of feature.Check that keep a state: the order of the features.
-/
import Derived.Test.YtcbobceggjndlaaGreatDoorSvI
set_option linter.unusedVariables false
set_option linter.unusedSimpArgs false
namespace Go.Proofs.YtcbobceggjndlaaGreatDoor
open Go.RowKit Go.BigFrame

/-- A survey without arcs, boxed. -/
def SB (w : World) (b : Nat) (A : Option Addr) (n c : Nat) (AF : Option Addr) (nF cF : Nat) : Prop := Bk w b 43 #[.slice A n c, .slice none 0 0, .slice none 0 0, .slice AF nF cF]

theorem SB.below {w w' : World} {b D : Nat} {A : Option Addr} {n c : Nat} {AF : Option Addr} {nF cF : Nat} (h : SB w b A n c AF nF cF) (hb : Below D w w') (hD : b < D) : SB w' b A n c AF nF cF := Bk.below h hb hD
theorem Bk.set0 {w : World} {b : Nat} {t : TypeId} {a0 : Value} (h : Bk w b t #[a0]) (u : Value) : Bk (w.setCell ⟨b, 0, none⟩ u) b t #[u] := by
  unfold Bk at h ⊢
  simp [World.setCell, Array.getElem?_modify, h]
theorem Bk.grown {w w' : World} {b : Nat} {t : TypeId} {cs : Array Value} {r : Option Nat} (h : Bk w b t cs) (hg : w.grownBy w' r) (hne : some b ≠ r) : Bk w' b t cs := (hg.block b h.lt hne).trans h

theorem grown_trans {a b c : World} {r : Option Nat} (h : a.grownBy b r) (k : b.grownBy c r) : a.grownBy c r :=
  ⟨k.os.trans h.os, k.tape.trans h.tape, k.output.trans h.output, Nat.le_trans h.size k.size, fun i hi hne => (k.block i (Nat.lt_of_lt_of_le hi h.size) hne).trans (h.block i hi hne)⟩
theorem grown_of {a w : World} (h : Below a.heap.size a w) (r : Option Nat) : a.grownBy w r := ⟨h.os, h.tape, h.output, h.size, fun i hi _ => h.block i hi⟩

set_option maxHeartbeats 8000000 in
theorem dis1_ok (fs : List Ftr) (A : Option Addr) (n c : Nat) (AF : Option Addr) (nF cF : Nat) (bi bs k : Nat) (w0 W : World) (hn : fs.length = nF) (hx : nF ≤ 1000) (hk : k < nF) (hbi : Bk W bi 3 #[.int .i64 (k : Int)]) (hbs : SB W bs A n c AF nF cF) (hne : bi ≠ bs)
    (hr : RF w0 AF fs) (hbW : Below w0.heap.size w0 W) (hB : w0.heap.size ≤ bi) (hlt : 0 < k → (ft fs (k - 1)).id < (ft fs k).id) (hp1 : (ft fs k).pn = 1) :
    Calls Tryz.prog 78 #[fv (ft fs k), .pointer (some ⟨bi, 0, none⟩), .pointer (some ⟨bs, 0, none⟩)] W fun e W' => e = .returned (.bool false) ∧ Bk W' bi 3 #[.int .i64 ((k : Int) + 1)] ∧ SB W' bs A n c AF nF cF ∧ Below w0.heap.size w0 W' ∧ W.grownBy W' (some bi) := by
  have hval := hr.2 k (by omega)
  rw [hp1] at hval
  have HV := Lib.hid hval
  have HLT := Lib.hid hlt
  have HR := Lib.hid hr.1
  have HP := Lib.hid hp1
  clear hval hlt hr
  have q' : W.cell? ⟨bi, 0, none⟩ = some (.int .i64 (k : Int)) := hbi.cell 0
  have f := hbi.frozen 0
  unfold fv
  rw [hp1]
  clear hp1
  go_enter Tryz.func78, Tryz.ntmps78
  have hl := hbi.lt
  have hl2 := Bk.lt hbs
  have hne1 : bi ≠ W.heap.size := by omega
  go_wp2_with fail
  have hg1 := grown_setCell W bi 0 (.int .i64 ((k : Int) + 1))
  have kb1 := Bk.set0 hbi (.int .i64 ((k : Int) + 1))
  have ks1 : SB (W.setCell ⟨bi, 0, none⟩ (.int .i64 ((k : Int) + 1))) bs A n c AF nF cF := Bk.grown hbs hg1 (fun e => hne (by injection e with e; exact e.symm))
  have kb2 := Bk.alloc kb1 (.cells #[.int .i64 (ft fs k).id, .int .i64 (ft fs k).kind, .int .i64 (ft fs k).cls, .string (ft fs k).name, .slice (ft fs k).pA 1 (ft fs k).pc] 40)
  have ks2 := Bk.alloc ks1 (.cells #[.int .i64 (ft fs k).id, .int .i64 (ft fs k).kind, .int .i64 (ft fs k).cls, .string (ft fs k).name, .slice (ft fs k).pA 1 (ft fs k).pc] 40)
  have kf2 := Bk.new (W.setCell ⟨bi, 0, none⟩ (.int .i64 ((k : Int) + 1))) #[.int .i64 (ft fs k).id, .int .i64 (ft fs k).kind, .int .i64 (ft fs k).cls, .string (ft fs k).name, .slice (ft fs k).pA 1 (ft fs k).pc] 40
  rw [show (W.setCell ⟨bi, 0, none⟩ (.int .i64 ((k : Int) + 1))).heap.size = W.heap.size by simp [World.setCell]] at kf2
  have hb2 : Below w0.heap.size w0 ((W.setCell ⟨bi, 0, none⟩ (.int .i64 ((k : Int) + 1))).alloc (.cells #[.int .i64 (ft fs k).id, .int .i64 (ft fs k).kind, .int .i64 (ft fs k).cls, .string (ft fs k).name, .slice (ft fs k).pA 1 (ft fs k).pc] 40)) := (hbW.setCell hB _).alloc (by have := hbW.size; simp [World.setCell]; omega) _
  have hgr := grown_trans hg1 (World.grownBy_alloc (W.setCell ⟨bi, 0, none⟩ (.int .i64 ((k : Int) + 1))) (.cells #[.int .i64 (ft fs k).id, .int .i64 (ft fs k).kind, .int .i64 (ft fs k).cls, .string (ft fs k).name, .slice (ft fs k).pA 1 (ft fs k).pc] 40) (some bi))
  obtain ⟨W2, hW2⟩ : ∃ X, (W.setCell ⟨bi, 0, none⟩ (.int .i64 ((k : Int) + 1))).alloc (.cells #[.int .i64 (ft fs k).id, .int .i64 (ft fs k).kind, .int .i64 (ft fs k).cls, .string (ft fs k).name, .slice (ft fs k).pA 1 (ft fs k).pc] 40) = X := ⟨_, rfl⟩
  rw [hW2] at kb2 ks2 kf2 hb2 hgr ⊢
  clear hW2 kb1 ks1 hg1 hbi hbs q' f hbW
  have hm1 := kb2.lt
  have hm2 := Bk.lt ks2
  have hm3 := kf2.lt
  have y1 : ∀ y : Keeps W2.heap.size W2, y.1.cell? ⟨bi, 0, none⟩ = some (.int .i64 ((k : Int) + 1)) := fun y => y.cell (kb2.cell 0) hm1
  have y2 : ∀ y : Keeps W2.heap.size W2, y.1.cell? ⟨bs, 3, none⟩ = some (.slice AF nF cF) := fun y => y.cell (Bk.cell ks2 3) hm2
  have y3 : ∀ y : Keeps W2.heap.size W2, y.1.cell? ⟨W.heap.size, 0, none⟩ = some (.int .i64 (ft fs k).id) := fun y => y.cell (kf2.cell 0) hm3
  have y4 : ∀ y : Keeps W2.heap.size W2, y.1.cell? ⟨W.heap.size, 4, none⟩ = some (.slice (ft fs k).pA 1 (ft fs k).pc) := fun y => y.cell (kf2.cell 4) hm3
  have HVC : Hid (∀ y : Keeps W2.heap.size W2, Calls Tryz.prog 79 #[.slice (ft fs k).pA 1 (ft fs k).pc] y.1 fun e w' => e = .returned (.bool true) ∧ Below y.1.heap.size y.1 w') := Lib.hid (fun y => by
    refine valid_ok _ _ 1 (ft fs k).parts _ HV.out.2 (by omega) ?_ ?_
    · have hz := hb2.size
      exact HV.out.1.below (hb2.trans (y.2.mono hz))
    · intro i hi
      rw [HV.out.2] at hi
      omega)
  by_cases h0 : k = 0
  · subst h0
    have g1 : decide ((1 : Int) < ((0 : Nat) : Int) + 1) = false := by decide
    have g2 : decide ((1 : Int) < 0 + 1) = false := by decide
    refine region_keeps W2.heap.size (by kernel_rfl) (by kernel_rfl) ?_
    repeat (go_big_quiet_step ((go_at_call 79; exact Calls.keeps (Nat.le_refl _) (HVC.out _))))
    refine wpQuiet_nil ?_
    intro _ hw'
    obtain ⟨⟨wq, hq⟩, rfl⟩ := hw'
    go_wp2_with fail
    go_ret
    exact ⟨rfl, kb2.below hq hm1, SB.below ks2 hq hm2, hb2.trans (hq.mono hb2.size), grown_trans hgr (grown_of hq _)⟩
  · obtain ⟨j, rfl⟩ : ∃ j, k = j + 1 := ⟨k - 1, by omega⟩
    obtain ⟨bF, oF, hAF, hbF, hcF⟩ := HR.out j (by omega)
    obtain ⟨c0, _, _, _, _⟩ := hcF j (by omega)
    have hlt := HLT.out (by omega)
    rw [show j + 1 - 1 = j by omega] at hlt
    have hz := hb2.size
    have y5 : ∀ y : Keeps W2.heap.size W2, y.1.cell? ⟨bF, oF + j * 5, none⟩ = some (.int .i64 (ft fs j).id) := fun y => y.cell ((hb2.cell (p := ⟨bF, oF + j * 5, none⟩) hbF).trans c0) (Nat.lt_of_lt_of_le hbF hz)
    have e2 : (((j + 1 : Nat) : Int) + 1) = (j : Int) + 2 := by omega
    rw [e2] at y1 kb2 ⊢
    subst hAF
    have g1 : decide ((1 : Int) < (j : Int) + 2) = true := decide_eq_true (by omega)
    have g2 : IntKind.i64.wrap ((j : Int) + 2 - 2) = (j : Int) := by rw [show (j : Int) + 2 - 2 = (j : Int) by omega]; exact IntWalk.i64_in _ ⟨by omega, by omega⟩
    have g3 : decide ((ft fs (j + 1)).id ≤ (ft fs j).id) = false := decide_eq_false (by omega)
    have g4 : (j : Int) < (nF : Int) := by omega
    have g5 : (0 : Int) ≤ (j : Int) := by omega
    clear c0 hcF hlt e2
    refine region_keeps W2.heap.size (by kernel_rfl) (by kernel_rfl) ?_
    repeat (go_big_quiet_step ((go_at_call 79; exact Calls.keeps (Nat.le_refl _) (HVC.out _))))
    refine wpQuiet_nil ?_
    intro _ hw'
    obtain ⟨⟨wq, hq⟩, rfl⟩ := hw'
    go_wp2_with fail
    go_ret
    exact ⟨rfl, kb2.below hq hm1, SB.below ks2 hq hm2, hb2.trans (hq.mono hb2.size), grown_trans hgr (grown_of hq _)⟩

theorem disordered_ok (A : Option Addr) (n c : Nat) (AF : Option Addr) (nF cF : Nat) (w : World) :
    Calls Tryz.prog 43 #[.agg #[.slice A n c, .slice none 0 0, .slice none 0 0, .slice AF nF cF]] w fun e w' => e = .returned (.func (.func 78) #[] #[.pointer (some ⟨w.heap.size + 1, 0, none⟩), .pointer (some ⟨w.heap.size, 0, none⟩)]) ∧ Below w.heap.size w w' ∧ Bk w' (w.heap.size + 1) 3 #[.int .i64 0] ∧ SB w' w.heap.size A n c AF nF cF := by
  go_enter Tryz.func43, Tryz.ntmps43
  go_wp2_with fail
  go_ret
  have hb := (Below.refl _ (w.alloc (.cells #[.slice A n c, .slice none 0 0, .slice none 0 0, .slice AF nF cF] 43))).alloc (Nat.le_refl _) (.cells #[.int .i64 0] 3)
  have h1 := Bk.new (w.alloc (.cells #[.slice A n c, .slice none 0 0, .slice none 0 0, .slice AF nF cF] 43)) #[.int .i64 0] 3
  rw [show (w.alloc (.cells #[.slice A n c, .slice none 0 0, .slice none 0 0, .slice AF nF cF] 43)).heap.size = w.heap.size + 1 by simp] at h1
  exact ⟨rfl, ((Below.refl _ _).alloc (Nat.le_refl _) _).trans (hb.mono (by simp)), h1, Bk.alloc (Bk.new _ _ _) _⟩

set_option maxHeartbeats 2000000 in
theorem missing1_ok (f : Ftr) (A : Option Addr) (n c : Nat) (ns : List Nd) (k : Nat) (bf bp : Nat) (p : Int) (w : World) (hn : ns.length = n) (hx : n ≤ 256) (hA : RN w A ns) (hk : k < n) (hid : (nd ns k).id = p) (hno : ∀ j, j < k → (nd ns j).id ≠ p)
    (hbf : w.cell? ⟨bf, 1, none⟩ = some (.int .i64 f.kind)) (hkind : f.kind = 1 ∨ f.kind = 2 ∨ f.kind = 8) (h0 : w.cell? ⟨bp, 0, none⟩ = some (.slice A n c)) (h1 : w.cell? ⟨bp, 1, none⟩ = some (.slice none 0 0)) (h2 : w.cell? ⟨bp, 2, none⟩ = some (.slice none 0 0)) :
    Calls Tryz.prog 81 #[.int .i64 p, .pointer (some ⟨bf, 0, none⟩), .pointer (some ⟨bp, 0, none⟩)] w fun e w' => e = .returned (.bool false) ∧ Below w.heap.size w w' := by
  have HID := Lib.hid hid
  have HNO := Lib.hid hno
  have HK := Lib.hid hkind
  clear hid hno hkind
  go_enter Tryz.func81, Tryz.ntmps81
  go_wp2_with fail
  refine (shape_point _ _ HK.out).mono ?_
  first | rintro e w1 rfl rfl | rintro e w1 ⟨rfl, rfl⟩
  go_wp2_with fail
  refine (node_any A c n ns _ _ p k _ hn hA (by omega) hk HID.out HNO.out).mono ?_
  first | rintro e w1 rfl hb1 | rintro e w1 ⟨rfl, hb1⟩
  go_wp2_with fail
  go_ret
  exact ⟨rfl, hb1⟩

/-- The part of a point feature is a node of the plan. -/
def PartIn (ns : List Nd) (f : Ftr) : Prop := ∃ k p, k < ns.length ∧ f.parts = [p] ∧ (nd ns k).id = p ∧ ∀ j, j < k → (nd ns j).id ≠ p

set_option maxHeartbeats 2000000 in
theorem missing_ok (f : Ftr) (A : Option Addr) (n c : Nat) (ns : List Nd) (w : World) (hn : ns.length = n) (hx : n ≤ 256) (hA : RN w A ns) (hf : RI w f.pA f.parts) (hpn : f.parts.length = f.pn) (hkind : f.kind = 1 ∨ f.kind = 2 ∨ f.kind = 8) (hp : PartIn ns f) :
    Calls Tryz.prog 50 #[.agg #[.slice A n c, .slice none 0 0, .slice none 0 0], fv f] w fun e w' => e = .returned (.bool false) ∧ Below w.heap.size w w' := by
  obtain ⟨k, p, hk, hps, hid, hno⟩ := hp
  have hp1 : f.pn = 1 := by rw [← hpn, hps]; rfl
  unfold fv
  rw [hp1]
  have P0 := PB.new w A n c
  have hbF := (Below.refl _ (w.alloc (.cells #[.slice A n c, .slice none 0 0, .slice none 0 0] 38))).alloc (Nat.le_refl _) (.cells #[.int .i64 f.id, .int .i64 f.kind, .int .i64 f.cls, .string f.name, .slice f.pA 1 f.pc] 40)
  have P1 := P0.step hbF
  have kf := Bk.new (w.alloc (.cells #[.slice A n c, .slice none 0 0, .slice none 0 0] 38)) #[.int .i64 f.id, .int .i64 f.kind, .int .i64 f.cls, .string f.name, .slice f.pA 1 f.pc] 40
  rw [show (w.alloc (.cells #[.slice A n c, .slice none 0 0, .slice none 0 0] 38)).heap.size = w.heap.size + 1 by simp] at kf
  have HC : Hid (∀ W, Below w.heap.size w W → Bk W w.heap.size 38 #[.slice A n c, .slice none 0 0, .slice none 0 0] → Bk W (w.heap.size + 1) 40 #[.int .i64 f.id, .int .i64 f.kind, .int .i64 f.cls, .string f.name, .slice f.pA 1 f.pc] →
      Calls Tryz.prog 80 #[.slice f.pA 1 f.pc, .func (.func 81) #[] #[.pointer (some ⟨w.heap.size + 1, 0, none⟩), .pointer (some ⟨w.heap.size, 0, none⟩)]] W fun e W' => e = .returned (.bool false) ∧ Below W.heap.size W W') := Lib.hid (fun W hbW hbp hbf => by
    refine containsI_none 81 _ (enters_of Tryz.func81 (by kernel_rfl) rfl) f.pA f.pc 1 f.parts W (by rw [hps]; rfl) (by omega) (fun _ W' => Below W.heap.size W W') (Below.refl _ _) (fun _ W' hb => (hf.below hbW).below hb) (fun j W' hj hb => ?_)
    have hg : gi f.parts j = p := by rw [hps, show j = 0 by omega]; rfl
    rw [hg]
    have hbp' := hbp.below hb hbp.lt
    have hbf' := hbf.below hb hbf.lt
    refine (missing1_ok f A n c ns k (w.heap.size + 1) w.heap.size p W' hn hx ((hA.below hbW).below hb) (by omega) hid hno (hbf'.cell 1) hkind (hbp'.cell 0) (hbp'.cell 1) (hbp'.cell 2)).mono ?_
    rintro e W'' ⟨rfl, hb2⟩
    exact ⟨rfl, hb.trans (hb2.mono hb.size)⟩)
  clear hno hid hps hpn
  go_enter Tryz.func50, Tryz.ntmps50
  go_wp2_with fail
  refine (HC.out _ P1.2 P1.1 kf).mono ?_
  first | rintro e w1 rfl hb1 | rintro e w1 ⟨rfl, hb1⟩
  have P2 := P1.step hb1
  go_wp2_with fail
  go_ret
  exact ⟨rfl, P2.2⟩

theorem rule6_ok (f : Ftr) (A : Option Addr) (n c : Nat) (AF : Option Addr) (nF cF : Nat) (ns : List Nd) (bs : Nat) (w : World) (hn : ns.length = n) (hx : n ≤ 256) (hA : RN w A ns) (hf : RI w f.pA f.parts) (hpn : f.parts.length = f.pn) (hkind : f.kind = 1 ∨ f.kind = 2 ∨ f.kind = 8) (hp : PartIn ns f) (hs : SB w bs A n c AF nF cF) :
    Calls Tryz.prog 49 #[fv f, .pointer (some ⟨bs, 0, none⟩)] w fun e w' => e = .returned (.bool false) ∧ Below w.heap.size w w' := by
  have hb := (Below.refl _ w).alloc (Nat.le_refl _) (.cells #[.int .i64 f.id, .int .i64 f.kind, .int .i64 f.cls, .string f.name, .slice f.pA f.pn f.pc] 40)
  have hs2 := SB.below hs hb (Bk.lt hs)
  have HM := Lib.hid (missing_ok f A n c ns _ hn hx (hA.below hb) (hf.below hb) hpn hkind hp)
  have s0 := Bk.cell hs2 0
  have s1 := Bk.cell hs2 1
  have s2 := Bk.cell hs2 2
  simp only [List.getElem?_toArray, List.getElem?_cons_zero, List.getElem?_cons_succ] at s0 s1 s2
  clear hkind hp hpn
  unfold fv at HM ⊢
  go_enter Tryz.func49, Tryz.ntmps49
  go_wp2_with fail
  refine HM.out.mono ?_
  first | rintro e w1 rfl hb1 | rintro e w1 ⟨rfl, hb1⟩
  go_wp2_with fail
  go_ret
  exact ⟨rfl, hb.trans (hb1.mono (by simp))⟩
end Go.Proofs.YtcbobceggjndlaaGreatDoor
