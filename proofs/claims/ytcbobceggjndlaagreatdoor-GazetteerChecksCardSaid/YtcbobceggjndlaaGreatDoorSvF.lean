/-
  plan.Check, walk.Around and walk.Cycles at a valid plan without arcs.
-/
import Derived.Test.YtcbobceggjndlaaGreatDoorSvE
set_option linter.unusedVariables false
set_option linter.unusedSimpArgs false
namespace Go.Proofs.YtcbobceggjndlaaGreatDoor
open Go.RowKit

theorem OI.formn {w : World} {B n : Nat} {v : Value} {xs : List Int} (h : OI w B v xs) (hn : xs.length = n) : ∃ A c, v = .slice A n c ∧ n ≤ c ∧ RI w A xs := by
  obtain ⟨A, c, rfl, h1, _, h2⟩ := h.form
  subst hn
  exact ⟨A, c, rfl, h1, h2⟩
/-- A plan without arcs and faces, boxed at block B by a call that began in w. -/
def PB (B : Nat) (A : Option Addr) (n c : Nat) (w W : World) : Prop := Bk W B 38 #[.slice A n c, .slice none 0 0, .slice none 0 0] ∧ Below B w W
theorem PB.step {B : Nat} {A : Option Addr} {n c : Nat} {w W W' : World} (h : PB B A n c w W) (hb : Below W.heap.size W W') : PB B A n c w W' :=
  ⟨h.1.below hb h.1.lt, h.2.trans (hb.mono (Nat.le_of_lt h.1.lt))⟩
theorem PB.c0 {B : Nat} {A : Option Addr} {n c : Nat} {w W : World} (h : PB B A n c w W) : W.cell? ⟨B, 0, none⟩ = some (.slice A n c) := h.1.cell 0
theorem PB.c1 {B : Nat} {A : Option Addr} {n c : Nat} {w W : World} (h : PB B A n c w W) : W.cell? ⟨B, 1, none⟩ = some (.slice none 0 0) := h.1.cell 1
theorem PB.c2 {B : Nat} {A : Option Addr} {n c : Nat} {w W : World} (h : PB B A n c w W) : W.cell? ⟨B, 2, none⟩ = some (.slice none 0 0) := h.1.cell 2
theorem PB.new (w : World) (A : Option Addr) (n c : Nat) : PB w.heap.size A n c w (w.alloc (.cells #[.slice A n c, .slice none 0 0, .slice none 0 0] 38)) := ⟨Bk.new _ _ _, (Below.refl _ _).alloc (Nat.le_refl _) _⟩

theorem cell_newMap (w : World) (a : Addr) : (w.alloc (.map #[] 0)).cell? a = w.cell? a := by
  by_cases h : a.block = w.heap.size
  · have e1 : (w.alloc (.map #[] 0)).heap[a.block]? = some (.map #[] 0) := by rw [h]; exact heap_alloc_new w _
    have e2 : w.heap[a.block]? = none := by rw [h]; simp
    simp [World.cell?, e1, e2]
  · have e1 : (w.alloc (.map #[] 0)).heap[a.block]? = w.heap[a.block]? := by
      by_cases hl : a.block < w.heap.size
      · exact Below.heap_alloc w _ _ hl
      · rw [Array.getElem?_eq_none (by simp; omega), Array.getElem?_eq_none (by omega)]
    simp [World.cell?, e1]
theorem frozen_newMap (w : World) (a : Addr) : (w.alloc (.map #[] 0)).frozen? a = w.frozen? a := frozen?_alloc_map w #[] 0 a

/-- The nodes of a valid plan without arcs. -/
structure Good (ns : List Nd) : Prop where
  few : ns.length ≤ 256
  asc : Asc (ids ns)
  inn : IdsIn ns
  placed : Placed ns
  apart : Apart ns

set_option maxHeartbeats 4000000 in
theorem pcheck_ok (A : Option Addr) (c n : Nat) (ns : List Nd) (w : World) (hn : ns.length = n) (hc : n ≤ c) (hA : RN w A ns) (hg : Good ns) :
    Calls Tryz.prog 117 #[.agg #[.slice A n c, .slice none 0 0, .slice none 0 0]] w fun e w' => e = .returned (.int .i64 0) ∧ Below w.heap.size w w' := by
  have hx : n ≤ 256 := by rw [← hn]; exact hg.few
  have HG := Lib.hid hg
  clear hg
  go_enter Tryz.func117, Tryz.ntmps117
  go_wp2_with fail
  refine wp_loop_rounds 1 ?_
  rw [rounds_succ]
  go_wp2_with fail
  have P0 := PB.new w A n c
  have hA0 := hA.below P0.2
  refine (identifiers_ok A c n ns _ hn (by omega) hA0).mono ?_
  rintro e w1 ⟨hb1, v1, ho1, rfl⟩
  have P1 := P0.step hb1
  obtain ⟨A1, k1, rfl, _, hR1⟩ := ho1.formn ((ids_len ns).trans hn)
  clear P0 hA0 hb1 ho1
  have q2 := P1.c2
  go_wp2_with fail
  refine (ascending_ok _ _ n (ids ns) _ ((ids_len ns).trans hn) (by omega) hR1 HG.out.asc).mono ?_
  first | rintro e w2 rfl hb2 | rintro e w2 ⟨rfl, hb2⟩
  have P2 := P1.step hb2
  have hR2 := hR1.below hb2
  clear P1 hR1 hb2 q2
  go_wp2_with fail
  refine (ascending_ok _ _ 0 [] _ rfl (by omega) (RI.nil _ _) (fun i hi => absurd hi (by simp))).mono ?_
  first | rintro e w3 rfl hb3 | rintro e w3 ⟨rfl, hb3⟩
  have P3 := P2.step hb3
  have hR3 := hR2.below hb3
  have q2 := P3.c2
  clear P2 hR2 hb3
  go_wp2_with fail
  refine (ascending_ok _ _ 0 [] _ rfl (by omega) (RI.nil _ _) (fun i hi => absurd hi (by simp))).mono ?_
  first | rintro e w4 rfl hb4 | rintro e w4 ⟨rfl, hb4⟩
  have P4 := P3.step hb4
  have hR4 := hR3.below hb4
  clear P3 hR3 hb4 q2
  go_wp2_with fail
  refine (numbered_ok _ _ n (ids ns) _ ((ids_len ns).trans hn) (by omega) hR4 (fun i hi => by rw [gi_ids (by omega)]; exact HG.out.inn i (by omega))).mono ?_
  first | rintro e w5 rfl hb5 | rintro e w5 ⟨rfl, hb5⟩
  have P5 := P4.step hb5
  have hR5 := hR4.below hb5
  clear P4 hR4 hb5
  go_wp2_with fail
  refine (numbered_ok _ _ 0 [] _ rfl (by omega) (RI.nil _ _) (fun i hi => absurd hi (by omega))).mono ?_
  first | rintro e w6 rfl hb6 | rintro e w6 ⟨rfl, hb6⟩
  have P6 := P5.step hb6
  have hR6 := hR5.below hb6
  have q2 := P6.c2
  clear P5 hR5 hb6
  go_wp2_with fail
  refine (numbered_ok _ _ 0 [] _ rfl (by omega) (RI.nil _ _) (fun i hi => absurd hi (by omega))).mono ?_
  first | rintro e w7 rfl hb7 | rintro e w7 ⟨rfl, hb7⟩
  have P7 := P6.step hb7
  clear P6 hR6 hb7 q2
  have q0 := P7.c0
  have q1 := P7.c1
  have q2 := P7.c2
  go_wp2_with fail
  refine (placed_ok A c n ns _ hn (by omega) (hA.below P7.2) HG.out.placed).mono ?_
  first | rintro e w8 rfl hb8 | rintro e w8 ⟨rfl, hb8⟩
  have P8 := P7.step hb8
  clear P7 hb8 q0 q1 q2
  have q0 := P8.c0
  have q1 := P8.c1
  have q2 := P8.c2
  go_wp2_with fail
  refine (connected_ok A c n ns _ _ hn (by omega) hc (hA.below P8.2) HG.out.apart).mono ?_
  first | rintro e w9 rfl hb9 | rintro e w9 ⟨rfl, hb9⟩
  have P9 := P8.step hb9
  clear P8 hb9 q0 q1 q2
  have q0 := P9.c0
  have q1 := P9.c1
  have q2 := P9.c2
  go_wp2_with fail
  refine (planar_ok A c n ns _ hn (by omega) (hA.below P9.2) HG.out.inn).mono ?_
  first | rintro e w10 rfl hb10 | rintro e w10 ⟨rfl, hb10⟩
  have P10 := P9.step hb10
  go_wp2_with fail
  go_ret
  exact ⟨rfl, P10.2⟩

/-- The node's place among nodes with different identifiers. -/
theorem Good.first {ns : List Nd} (h : Good ns) {k : Nat} (hk : k < ns.length) : ∀ j, j < k → (nd ns j).id ≠ (nd ns k).id := by
  have key : ∀ d j, j + d + 1 < ns.length → (nd ns j).id < (nd ns (j + d + 1)).id := by
    intro d
    induction d with
    | zero =>
      intro j hj
      have := h.asc j (by rw [ids_len]; exact hj)
      rwa [gi_ids (by omega), gi_ids hj] at this
    | succ d ih =>
      intro j hj
      have h1 := ih j (by omega)
      have h2 := h.asc (j + d + 1) (by rw [ids_len]; omega)
      rw [gi_ids (by omega), gi_ids (by omega)] at h2
      exact Int.lt_trans h1 h2
  intro j hj
  have := key (k - j - 1) j (by omega)
  rw [show j + (k - j - 1) + 1 = k by omega] at this
  omega

set_option maxHeartbeats 4000000 in
theorem around_ok (A : Option Addr) (c n : Nat) (ns : List Nd) (k : Nat) (id : Int) (w : World) (hn : ns.length = n) (hA : RN w A ns) (hg : Good ns) (hk : k < n) (hid : (nd ns k).id = id) :
    Calls Tryz.prog 118 #[.agg #[.slice A n c, .slice none 0 0, .slice none 0 0], .int .i64 id] w fun e w' => e = .returned (.slice none 0 0) ∧ Below w.heap.size w w' := by
  have hx : n ≤ 256 := by rw [← hn]; exact hg.few
  have HF := Lib.hid (hg.first (k := k) (by omega))
  have HID := Lib.hid hid
  clear hg hid
  have hmk := fun (W : World) => run_makeMap (P := Tryz.prog) 179 W
  have hcm := cell_newMap
  have hfm := frozen_newMap
  go_enter Tryz.func118, Tryz.ntmps118
  go_wp2_with fail
  have P0 := PB.new w A n c
  have P1 := P0.step ((Below.refl _ _).alloc (Nat.le_refl _) (.cells #[.slice none 0 0] 36))
  have k1 := Bk.new (w.alloc (.cells #[.slice A n c, .slice none 0 0, .slice none 0 0] 38)) #[.slice none 0 0] 36
  rw [show (w.alloc (.cells #[.slice A n c, .slice none 0 0, .slice none 0 0] 38)).heap.size = w.heap.size + 1 by simp] at k1
  refine (node_any A c n ns _ _ id k _ hn (hA.below P1.2) (by omega) hk HID.out (fun j hj => by rw [← HID.out]; exact HF.out j hj)).mono ?_
  first | rintro e w1 rfl hb1 | rintro e w1 ⟨rfl, hb1⟩
  have P2 := P1.step hb1
  have k2 := k1.below hb1 k1.lt
  clear P0 P1 k1 hb1 hA
  have hl1 := P2.1.lt
  have hl2 := k2.lt
  have hbN : Below w1.heap.size w1 (((w1.alloc (.cells #[.int .i64 (nd ns k).id, .int .i64 (nd ns k).x, .int .i64 (nd ns k).y] 33)).alloc (.map #[] 0)).alloc (.cells #[.map (some (w1.heap.size + 1))] 179)) :=
    (((Below.refl _ _).alloc (Nat.le_refl _) _).alloc (by simp) _).alloc (by simp; omega) _
  have P3 := P2.step hbN
  have k3 := k2.below hbN hl2
  have q1 := P3.c1
  have r0 := k3.cell 0
  have rf := k3.frozen 0
  simp only [List.getElem?_toArray, List.getElem?_cons_zero] at r0
  go_wp2_with fail
  obtain ⟨W3, hW3⟩ : ∃ W, ((w1.alloc (.cells #[.int .i64 (nd ns k).id, .int .i64 (nd ns k).x, .int .i64 (nd ns k).y] 33)).alloc (.map #[] 0)).alloc (.cells #[.map (some (w1.heap.size + 1))] 179) = W := ⟨_, rfl⟩
  rw [hW3] at P3 k3 q1 r0 rf ⊢
  clear hW3 hbN
  refine wp_loop_rounds 1 ?_
  rw [rounds_succ]
  go_wp2_with fail
  refine (sortFI_none _ _ _ _).mono ?_
  first | rintro e w2 rfl rfl | rintro e w2 ⟨rfl, rfl⟩
  go_wp2_with fail
  refine bodyPost_ret (v := .slice none 0 0) (by simp [results, Tryz.results118, go_sem, *]) rfl ?_
  exact ⟨rfl, P3.2.setCell (by simp) _⟩

set_option maxHeartbeats 4000000 in
theorem cycles_ok (A : Option Addr) (c n : Nat) (ns : List Nd) (w : World) (hn : ns.length = n) (hc : n ≤ c) (hA : RN w A ns) (hg : Good ns) :
    Calls Tryz.prog 98 #[.agg #[.slice A n c, .slice none 0 0, .slice none 0 0]] w fun e w' => e = .returned (.tuple #[.slice none 0 0, .int .i64 0]) ∧ Below w.heap.size w w' := by
  have hx : n ≤ 256 := by rw [← hn]; exact hg.few
  have HG := Lib.hid hg
  clear hg
  have hmk := fun (W : World) => run_makeMap (P := Tryz.prog) 154 W
  have hmk2 := fun (W : World) => run_makeMap (P := Tryz.prog) 157 W
  go_enter Tryz.func98, Tryz.ntmps98
  go_wp2_with fail
  have P0 := PB.new w A n c
  refine (pcheck_ok A c n ns _ hn hc (hA.below P0.2) HG.out).mono ?_
  first | rintro e w1 rfl hb1 | rintro e w1 ⟨rfl, hb1⟩
  have P1 := P0.step hb1
  clear P0 hb1
  have hbN : Below w1.heap.size w1 ((w1.alloc (.map #[] 0)).alloc (.cells #[.map (some w1.heap.size)] 154)) := ((Below.refl _ _).alloc (Nat.le_refl _) _).alloc (by simp) _
  have P2 := P1.step hbN
  have q0 := P2.c0
  go_wp2_with fail
  obtain ⟨W2, hW2⟩ : ∃ W, (w1.alloc (.map #[] 0)).alloc (.cells #[.map (some w1.heap.size)] 154) = W := ⟨_, rfl⟩
  rw [hW2] at P2 q0 ⊢
  clear hW2 hbN P1 q0
  go_loopw [4, 24] (fun v iv wr => ∃ (i : Nat), v = .slice none 0 0 ∧ iv = .int .i64 i ∧ i ≤ n ∧ PB w.heap.size A n c w wr) (fun _ iv _ => n - (intOf iv).toNat)
  case atStart => exact ⟨0, rfl, rfl, by omega, P2⟩
  case round =>
    obtain ⟨i, rfl, rfl, hi, P3⟩ := hrel
    by_cases hlt : i < n
    · obtain ⟨b1, o1, rfl, hbb1, hc1⟩ := hA i (by omega)
      obtain ⟨c1, c2, c3⟩ := hc1 i (by omega)
      have d1 := (P3.2.cell (p := ⟨b1, o1 + i * 3, none⟩) hbb1).trans c1
      have d2 := (P3.2.cell (p := ⟨b1, o1 + i * 3 + 1, none⟩) hbb1).trans c2
      have d3 := (P3.2.cell (p := ⟨b1, o1 + i * 3 + 2, none⟩) hbb1).trans c3
      have P4 := P3.step ((Below.refl _ _).alloc (Nat.le_refl _) (.cells #[.int .i64 (nd ns i).id, .int .i64 (nd ns i).x, .int .i64 (nd ns i).y] 33))
      have q0 := P4.c0
      have q1 := P4.c1
      have q2 := P4.c2
      clear hc1 c1 c2 c3
      go_wp2_with fail
      refine (around_ok _ c n ns i _ _ hn (hA.below P4.2) HG.out hlt rfl).mono ?_
      first | rintro e w2 rfl hb2 | rintro e w2 ⟨rfl, hb2⟩
      have P5 := P4.step hb2
      clear d1 d2 d3 q0 q1 q2 hb2
      go_wp2_with fail
      refine wp_loop_rounds 1 ?_
      rw [rounds_succ]
      go_wp2_with fail
      go_roundw
      case rel => exact ⟨i + 1, rfl, by go_num, by omega, P5⟩
      case measure => simp [intOf]; omega
    · go_wp2_with fail
      refine (sortO_none _ _ _).mono ?_
      first | rintro e w2 rfl rfl | rintro e w2 ⟨rfl, rfl⟩
      go_wp2_with fail
      refine wp_loop_rounds 1 ?_
      rw [rounds_succ]
      go_wp2_with fail
      go_ret2
      exact ⟨rfl, (P3.2.alloc (Nat.le_of_lt P3.1.lt) _).alloc (by have := P3.1.lt; simp; omega) _⟩
end Go.Proofs.YtcbobceggjndlaaGreatDoor
