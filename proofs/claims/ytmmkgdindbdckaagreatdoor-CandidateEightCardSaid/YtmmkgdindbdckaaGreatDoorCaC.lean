/-
  Candidates: the anchors of a point feature.
-/
import Derived.Test.YtmmkgdindbdckaaGreatDoorCaB
set_option linter.unusedVariables false
set_option linter.unusedSimpArgs false
namespace Go.Proofs.YtmmkgdindbdckaaGreatDoor
open Go.RowKit

set_option maxHeartbeats 4000000 in
theorem idxN_first (b off n c : Nat) (i x y : Int) (w : World) (hn : 0 < n) (hx : n ≤ 1000000) (c0 : w.cell? ⟨b, off, none⟩ = some (.int .i64 i)) (c1 : w.cell? ⟨b, off + 1, none⟩ = some (.int .i64 x)) (c2 : w.cell? ⟨b, off + 2, none⟩ = some (.int .i64 y)) (hb : b < w.heap.size) :
    Calls Tryz.prog 67 #[.slice (some ⟨b, off, none⟩) n c, .agg #[.int .i64 i, .int .i64 x, .int .i64 y]] w fun e w' => e = .returned (.int .i64 0) ∧ Below w.heap.size w w' := by
  go_enter Tryz.func67, Tryz.ntmps67
  go_wp2_with fail
  obtain ⟨W1, hW⟩ : ∃ X, w.alloc (.cells #[.int .i64 i, .int .i64 x, .int .i64 y] 55) = X := ⟨_, rfl⟩
  have b1 : Below w.heap.size w W1 := by rw [← hW]; exact (Below.refl _ _).alloc (Nat.le_refl _) _
  have k1 : Bk W1 w.heap.size 55 #[.int .i64 i, .int .i64 x, .int .i64 y] := by rw [← hW]; exact Bk.new _ _ _
  rw [hW]
  clear hW
  have q0 := k1.cell 0
  have q1 := k1.cell 1
  have q2 := k1.cell 2
  simp only [List.getElem?_toArray, List.getElem?_cons_zero, List.getElem?_cons_succ] at q0 q1 q2
  have d0 := (b1.cell (p := ⟨b, off, none⟩) hb).trans c0
  have d1 := (b1.cell (p := ⟨b, off + 1, none⟩) hb).trans c1
  have d2 := (b1.cell (p := ⟨b, off + 2, none⟩) hb).trans c2
  have hn' : (0 : Int) < n := by omega
  clear c0 c1 c2 k1
  refine wp_loop_rounds 1 ?_
  rw [rounds_succ]
  go_wp2_with fail
  go_quiet (fail)
  go_wp2_with fail
  go_ret
  exact ⟨rfl, below_drewN b1 _⟩
theorem containsN_first (b off n c : Nat) (i x y : Int) (w : World) (hn : 0 < n) (hx : n ≤ 1000000) (c0 : w.cell? ⟨b, off, none⟩ = some (.int .i64 i)) (c1 : w.cell? ⟨b, off + 1, none⟩ = some (.int .i64 x)) (c2 : w.cell? ⟨b, off + 2, none⟩ = some (.int .i64 y)) (hb : b < w.heap.size) :
    Calls Tryz.prog 51 #[.slice (some ⟨b, off, none⟩) n c, .agg #[.int .i64 i, .int .i64 x, .int .i64 y]] w fun e w' => e = .returned (.bool true) ∧ Below w.heap.size w w' := by
  have b1 : Below w.heap.size w (w.alloc (.cells #[.int .i64 i, .int .i64 x, .int .i64 y] 55)) := (Below.refl _ _).alloc (Nat.le_refl _) _
  have HC := Lib.hid (idxN_first b off n c i x y (w.alloc (.cells #[.int .i64 i, .int .i64 x, .int .i64 y] 55)) hn hx ((b1.cell (p := ⟨b, off, none⟩) hb).trans c0) ((b1.cell (p := ⟨b, off + 1, none⟩) hb).trans c1) ((b1.cell (p := ⟨b, off + 2, none⟩) hb).trans c2) (Nat.lt_of_lt_of_le hb b1.size))
  clear c0 c1 c2
  go_enter Tryz.func51, Tryz.ntmps51
  go_wp2_with fail
  refine HC.out.mono ?_
  first | rintro e w1 rfl hb1 | rintro e w1 ⟨rfl, hb1⟩
  go_wp2_with fail
  go_ret
  exact ⟨rfl, b1.trans (hb1.mono b1.size)⟩
theorem idxN_nil (i x y : Int) (w : World) : Calls Tryz.prog 67 #[.slice none 0 0, .agg #[.int .i64 i, .int .i64 x, .int .i64 y]] w fun e w' => e = .returned (.int .i64 (-1)) ∧ Below w.heap.size w w' := by
  go_enter Tryz.func67, Tryz.ntmps67
  go_wp2_with fail
  refine wp_loop_rounds 1 ?_
  rw [rounds_succ]
  go_wp2_with fail
  go_ret
  refine ⟨rfl, ?_⟩
  go_grown
theorem containsN_nil (i x y : Int) (w : World) : Calls Tryz.prog 51 #[.slice none 0 0, .agg #[.int .i64 i, .int .i64 x, .int .i64 y]] w fun e w' => e = .returned (.bool false) ∧ Below w.heap.size w w' := by
  have b1 : Below w.heap.size w (w.alloc (.cells #[.int .i64 i, .int .i64 x, .int .i64 y] 55)) := (Below.refl _ _).alloc (Nat.le_refl _) _
  go_enter Tryz.func51, Tryz.ntmps51
  go_wp2_with fail
  refine (idxN_nil i x y _).mono ?_
  first | rintro e w1 rfl hb1 | rintro e w1 ⟨rfl, hb1⟩
  go_wp2_with fail
  go_ret
  exact ⟨rfl, b1.trans (hb1.mono b1.size)⟩
theorem Bk.newAt {X : World} {n : Nat} (h : X.heap.size = n) (cs : Array Value) (t : TypeId) : Bk (X.alloc (.cells cs t)) n t cs := h ▸ Bk.new X cs t
/-- One point in a row of the call's own, or none. -/
def AnchPost (o : Option (Int × Int)) (w : World) (e : Ending) (w' : World) : Prop :=
  Below w.heap.size w w' ∧ match o with
  | none => e = .returned (.slice none 0 0)
  | some p => ∃ g cap, e = .returned (.slice (some ⟨g, 0, none⟩) 1 cap) ∧ g < w'.heap.size ∧ w'.cell? ⟨g, 0, none⟩ = some (.int .i64 p.1) ∧ w'.cell? ⟨g, 1, none⟩ = some (.int .i64 p.2)
theorem pt_info : (Tryz.prog.info? 23).map (fun i => (i.zero, i.size, i.bytes)) = some (some (.agg #[.int .i64 0, .int .i64 0]), 2, 16) := by kernel_rfl

set_option maxHeartbeats 8000000 in
theorem cpoint_hit (m : Nd) (b off n c nF cF cp : Nat) (AF AP : Option Addr) (sheet fid kind cls : Int) (name : ByteArray) (w : World) (hn : n = 1) (hA : RN w (some ⟨b, off, none⟩) [m]) (hP : RI w AP [m.id]) :
    Calls Tryz.prog 32 #[.agg #[.slice (some ⟨b, off, none⟩) n c, .slice none 0 0, .slice none 0 0, .slice AF nF cF], .agg #[.int .i64 sheet, .slice none 0 0, .slice (some ⟨b, off, none⟩) n c], .agg #[.int .i64 fid, .int .i64 kind, .int .i64 cls, .string name, .slice AP 1 cp]] w (AnchPost (some (m.x, m.y)) w) := by
  subst hn
  obtain ⟨bp, op, rfl, hbp, hcp⟩ := hP 0 (by simp)
  have cp0 : w.cell? ⟨bp, op, none⟩ = some (.int .i64 m.id) := hcp 0 (by simp)
  obtain ⟨i0, hi0, hz0, hz1, hz2⟩ := info_parts pt_info
  go_enter Tryz.func32, Tryz.ntmps32
  go_wp2_with fail
  obtain ⟨W1, hW⟩ : ∃ X, ((w.alloc (.cells #[.slice (some ⟨b, off, none⟩) 1 c, .slice none 0 0, .slice none 0 0, .slice AF nF cF] 42)).alloc (.cells #[.int .i64 sheet, .slice none 0 0, .slice (some ⟨b, off, none⟩) 1 c] 46)).alloc (.cells #[.int .i64 fid, .int .i64 kind, .int .i64 cls, .string name, .slice (some ⟨bp, op, none⟩) 1 cp] 57) = X := ⟨_, rfl⟩
  have b1 : Below w.heap.size w W1 := by rw [← hW]; exact (((Below.refl _ _).alloc (Nat.le_refl _) _).alloc (by simp) _).alloc (by simp; omega) _
  have kS : Bk W1 w.heap.size 42 #[.slice (some ⟨b, off, none⟩) 1 c, .slice none 0 0, .slice none 0 0, .slice AF nF cF] := by rw [← hW]; exact ((Bk.new _ _ _).alloc _).alloc _
  have kP : Bk W1 (w.heap.size + 1) 46 #[.int .i64 sheet, .slice none 0 0, .slice (some ⟨b, off, none⟩) 1 c] := by rw [← hW]; exact (Bk.newAt (by simp) _ _).alloc _
  rw [hW]
  clear hW
  have d0 := (b1.cell (p := ⟨bp, op, none⟩) hbp).trans cp0
  have s0 : W1.cell? ⟨w.heap.size, 0, none⟩ = some (.slice (some ⟨b, off, none⟩) 1 c) := kS.cell 0
  have s1 : W1.cell? ⟨w.heap.size, 1, none⟩ = some (.slice none 0 0) := kS.cell 1
  have s2 : W1.cell? ⟨w.heap.size, 2, none⟩ = some (.slice none 0 0) := kS.cell 2
  clear hcp cp0
  refine wp_loop_rounds 2 ?_
  rw [rounds_succ]
  go_wp2_with fail
  refine (node_any (some ⟨b, off, none⟩) c 1 [m] _ _ m.id 0 _ rfl (hA.below b1) (by omega) (by omega) rfl (fun j hj => absurd hj (by omega))).mono ?_
  first | rintro e w2 rfl hb2 | rintro e w2 ⟨rfl, hb2⟩
  have b2 : Below w.heap.size w w2 := b1.trans (hb2.mono b1.size)
  have kP2 := kP.below hb2 kP.lt
  clear s0 s1 s2 d0 kS kP hb2
  go_upto_region 5 with fail
  obtain ⟨W3, hW⟩ : ∃ X, w2.alloc (.cells #[.int .i64 m.id, .int .i64 m.x, .int .i64 m.y] 55) = X := ⟨_, rfl⟩
  have hb3 : Below w2.heap.size w2 W3 := by rw [← hW]; exact (Below.refl _ _).alloc (Nat.le_refl _) _
  have kN : Bk W3 w2.heap.size 55 #[.int .i64 m.id, .int .i64 m.x, .int .i64 m.y] := by rw [← hW]; exact Bk.new _ _ _
  rw [show w2.alloc (.cells #[.int .i64 (nd [m] 0).id, .int .i64 (nd [m] 0).x, .int .i64 (nd [m] 0).y] 55) = W3 from hW]
  clear hW
  have b3 : Below w.heap.size w W3 := b2.trans (hb3.mono b2.size)
  have kP3 := kP2.below hb3 kP2.lt
  have n0 := kN.cell 0
  have n1 := kN.cell 1
  have n2 := kN.cell 2
  simp only [List.getElem?_toArray, List.getElem?_cons_zero, List.getElem?_cons_succ] at n0 n1 n2
  have p2 : W3.cell? ⟨w.heap.size + 1, 2, none⟩ = some (.slice (some ⟨b, off, none⟩) 1 c) := kP3.cell 2
  obtain ⟨b', off', hbo, hbl, hcA⟩ := (hA.below b3) 0 (by simp)
  injection hbo with hbo
  injection hbo with hb' ho'
  subst hb'
  subst ho'
  obtain ⟨c0, c1, c2⟩ := hcA 0 (by simp)
  have HCN := Lib.hid (containsN_first b off 1 c m.id m.x m.y W3 (by omega) (by omega) c0 c1 c2 hbl)
  clear hcA c0 c1 c2
  go_wp2_with fail
  refine HCN.out.mono ?_
  first | rintro e w4 rfl hb4 | rintro e w4 ⟨rfl, hb4⟩
  have b4 : Below w.heap.size w w4 := b3.trans (hb4.mono b3.size)
  have kN4 := kN.below hb4 kN.lt
  clear n0 n1 n2 p2 HCN
  have n1 : w4.cell? ⟨w2.heap.size, 1, none⟩ = some (.int .i64 m.x) := kN4.cell 1
  have n2 : w4.cell? ⟨w2.heap.size, 2, none⟩ = some (.int .i64 m.y) := kN4.cell 2
  have z4 := b4.size
  go_wp2_with (at_builtin; go_loud (refine wpList_append_lies _ rfl _ _ _ rfl w4.heap.size 23 i0 (.agg #[.int .i64 0, .int .i64 0]) 2 16 Tryz.underlying47 hi0 hz0 hz1 hz2 rfl (by omega) (.slice none 0 0) 0 [] rfl ⟨by simp, Or.inl ⟨rfl, rfl⟩⟩ ⟨w4.heap.size, 0, none⟩ 1 1 [.int .i64 m.x, .int .i64 m.y] rfl rfl (World.news_of_block (heap_alloc_new w4 _)) (by simp [Value.oneCell']) (by omega) (by unfold maxLen; omega) (by omega) (by simp) (w4.heap.size + 1) (by simp) ?_; intro g cap w5 hown hgrow hat hlt))
  rw [rounds_succ]
  have b5 : Below w.heap.size w w5 := by
    have h1 : Below w.heap.size w (w4.alloc (.cells #[.int .i64 m.x, .int .i64 m.y] 23)) := b4.alloc z4 _
    exact h1.trans ⟨hgrow.os, hgrow.tape, hgrow.output, hgrow.size, fun k hk => hgrow.block k (by simp; omega) (fun e => by cases e)⟩
  have hC : w5.cell? ⟨g, 0, none⟩ = some (.int .i64 m.x) ∧ w5.cell? ⟨g, 1, none⟩ = some (.int .i64 m.y) := by
    obtain ⟨u1, u2⟩ := hown
    rcases u2 with ⟨u2, _⟩ | ⟨g', cap', cur, e1, e2, e3, e4, e5, e6, e7⟩
    · cases u2
    · injection e1 with e1
      injection e1 with e1
      injection e1 with e1
      subst e1
      have h0 : (cur.toList.take ((0 + 1) * 2))[0]? = some (.int .i64 m.x) := by rw [e7]; rfl
      have h1 : (cur.toList.take ((0 + 1) * 2))[1]? = some (.int .i64 m.y) := by rw [e7]; rfl
      rw [List.getElem?_take, if_pos (by omega)] at h0 h1
      constructor
      · simp [World.cell?, e3]; simpa using h0
      · simp [World.cell?, e3]; simpa using h1
  have HC := Lib.hid hC
  clear hown hgrow hC n1 n2
  go_wp2_with fail
  go_ret
  exact ⟨b5, g, cap, rfl, hlt, HC.out.1, HC.out.2⟩
end Go.Proofs.YtmmkgdindbdckaaGreatDoor
