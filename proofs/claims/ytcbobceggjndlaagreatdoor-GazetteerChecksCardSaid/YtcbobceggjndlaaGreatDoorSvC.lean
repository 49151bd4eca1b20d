/-
  Plans without arcs: identifiers, placed, segments.
-/
import Derived.Test.YtcbobceggjndlaaGreatDoorSvB
set_option linter.unusedVariables false
set_option linter.unusedSimpArgs false
namespace Go.Proofs.YtcbobceggjndlaaGreatDoor
open Go.RowKit

/-- The identifiers of nodes. -/
def ids (ns : List Nd) : List Int := ns.map Nd.id
theorem ids_len (ns : List Nd) : (ids ns).length = ns.length := by simp [ids]
theorem ids_take {ns : List Nd} {i : Nat} (h : i < ns.length) : ids (ns.take (i + 1)) = ids (ns.take i) ++ [(nd ns i).id] := by
  unfold ids
  rw [List.take_succ_eq_append_getElem h, List.map_append, nd_eq h]
  rfl
theorem gi_ids {ns : List Nd} {i : Nat} (h : i < ns.length) : gi (ids ns) i = (nd ns i).id := by
  rw [gi_eq (by rw [ids_len]; exact h), nd_eq h]; simp [ids]

/-- Two lists, the first the call's own, the second nil. -/
def IdsPost (L : List Int) (w : World) (e : Ending) (w' : World) : Prop :=
  Below w.heap.size w w' ∧ ∃ v, OI w' w.heap.size v L ∧ e = .returned (.tuple #[v, .slice none 0 0])

set_option maxHeartbeats 2000000 in
theorem identifiers_ok (A : Option Addr) (c n : Nat) (ns : List Nd) (w : World) (hn : ns.length = n) (hx : n ≤ 1000000) (hA : RN w A ns) :
    Calls Tryz.prog 138 #[.agg #[.slice A n c, .slice none 0 0, .slice none 0 0]] w (IdsPost (ids ns) w) := by
  go_enter Tryz.func138, Tryz.ntmps138
  go_wp2_with fail
  obtain ⟨W1, hW⟩ : ∃ W, w.alloc (.cells #[.slice A n c, .slice none 0 0, .slice none 0 0] 38) = W := ⟨_, rfl⟩
  have hz1 : W1.heap.size = w.heap.size + 1 := by rw [← hW]; simp
  have hb1 : Below w.heap.size w W1 := by rw [← hW]; exact (Below.refl _ _).alloc (Nat.le_refl _) _
  have hk1 : Bk W1 w.heap.size 38 #[.slice A n c, .slice none 0 0, .slice none 0 0] := by rw [← hW]; exact Bk.new _ _ _
  rw [hW]
  clear hW
  go_loopw [2, 11] (fun v iv wr => ∃ (i : Nat) (acc : List Int), iv = .int .i64 i ∧ i ≤ n ∧ OI wr W1.heap.size v acc ∧ Hid (ids (ns.take i) = acc) ∧ acc.length ≤ i ∧ Below W1.heap.size W1 wr) (fun _ iv _ => n - (intOf iv).toNat)
  case atStart => exact ⟨0, [], rfl, by omega, OI.nil _ _, rfl, by simp, Below.refl _ _⟩
  case round =>
    obtain ⟨i, acc, rfl, hi, hown, hacc, hal, hbw⟩ := hrel
    have hzr := hbw.size
    have hb0r : Below w.heap.size w wr := hb1.trans (hbw.mono hb1.size)
    by_cases hlt : i < n
    · obtain ⟨b1, o1, rfl, hbb1, hc1⟩ := hA i (by omega)
      obtain ⟨c1, c2, c3⟩ := hc1 i (by omega)
      have d1 := (hb0r.cell (p := ⟨b1, o1 + i * 3, none⟩) hbb1).trans c1
      have d2 := (hb0r.cell (p := ⟨b1, o1 + i * 3 + 1, none⟩) hbb1).trans c2
      have d3 := (hb0r.cell (p := ⟨b1, o1 + i * 3 + 2, none⟩) hbb1).trans c3
      have HS := Lib.hid (ids_take (ns := ns) (i := i) (by omega))
      have hbn : Below wr.heap.size wr (wr.alloc (.cells #[.int .i64 (nd ns i).id, .int .i64 (nd ns i).x, .int .i64 (nd ns i).y] 33)) := (Below.refl _ _).alloc (Nat.le_refl _) _
      have hown2 := hown.below hbn (Nat.le_refl _)
      clear hc1 c1 c2 c3 hA
      go_wp2_with (at_builtin; refine append_int rfl _ _ rfl (wr.alloc (.cells #[.int .i64 (nd ns i).id, .int .i64 (nd ns i).x, .int .i64 (nd ns i).y] 33)) W1.heap.size u2 acc (nd ns i).id rfl hown2 (by simp; rfl) (by omega) (by simp; omega) ?_; intro v' w3 hown3 hb3 hg3)
      go_roundw
      case rel => exact ⟨i + 1, acc ++ [(nd ns i).id], by go_num, by omega, hown3, by show _ = _; rw [HS.out, hacc.out], by simp; omega, (hbw.trans (hbn.mono hzr)).trans hb3⟩
      case measure => simp [intOf]; omega
    · have HF : Hid (ids ns = acc) := Lib.hid (by rw [← hacc.out, List.take_of_length_le (by omega)])
      have hk2 := hk1.below hbw (by omega)
      have q1 : wr.cell? ⟨w.heap.size, 1, none⟩ = some (.slice none 0 0) := hk2.cell 1
      go_wp2_with fail
      go_rounds 1
      go_ret2
      exact ⟨hb0r, _, by rw [HF.out]; exact hown.mono (by omega), rfl⟩

theorem wrong_ok (x y : Int) (w : World) (h1 : -1048576 ≤ x) (h2 : x ≤ 1048576) (h3 : -1048576 ≤ y) (h4 : y ≤ 1048576) : Calls Tryz.prog 160 #[.agg #[.int .i64 x, .int .i64 y]] w fun e w' => e = .returned (.bool false) ∧ Below w.heap.size w w' := by
  go_enter Tryz.func160, Tryz.ntmps160
  go_wp2_with fail
  go_ret
  refine ⟨ret_bool (by simp; omega), ?_⟩
  go_grown

/-- The points lie within the plane. -/
def Placed (ns : List Nd) : Prop := ∀ i, i < ns.length → -1048576 ≤ (nd ns i).x ∧ (nd ns i).x ≤ 1048576 ∧ -1048576 ≤ (nd ns i).y ∧ (nd ns i).y ≤ 1048576

set_option maxHeartbeats 2000000 in
theorem placed_ok (A : Option Addr) (c n : Nat) (ns : List Nd) (w : World) (hn : ns.length = n) (hx : n ≤ 1000000) (hA : RN w A ns) (hp : Placed ns) :
    Calls Tryz.prog 141 #[.agg #[.slice A n c, .slice none 0 0, .slice none 0 0]] w fun e w' => e = .returned (.bool true) ∧ Below w.heap.size w w' := by
  have HP := Lib.hid hp
  clear hp
  go_enter Tryz.func141, Tryz.ntmps141
  go_wp2_with fail
  obtain ⟨W1, hW⟩ : ∃ W, w.alloc (.cells #[.slice A n c, .slice none 0 0, .slice none 0 0] 38) = W := ⟨_, rfl⟩
  have hz1 : W1.heap.size = w.heap.size + 1 := by rw [← hW]; simp
  have hb1 : Below w.heap.size w W1 := by rw [← hW]; exact (Below.refl _ _).alloc (Nat.le_refl _) _
  have hk1 : Bk W1 w.heap.size 38 #[.slice A n c, .slice none 0 0, .slice none 0 0] := by rw [← hW]; exact Bk.new _ _ _
  rw [hW]
  clear hW
  go_loopw [11] (fun iv wr => ∃ (i : Nat), iv = .int .i64 i ∧ i ≤ n ∧ Below W1.heap.size W1 wr) (fun iv _ => n - (intOf iv).toNat)
  case atStart => exact ⟨0, rfl, by omega, Below.refl _ _⟩
  case round =>
    obtain ⟨i, rfl, hi, hbw⟩ := hrel
    have hzr := hbw.size
    have hb0r : Below w.heap.size w wr := hb1.trans (hbw.mono hb1.size)
    by_cases hlt : i < n
    · obtain ⟨b1, o1, rfl, hbb1, hc1⟩ := hA i (by omega)
      obtain ⟨c1, c2, c3⟩ := hc1 i (by omega)
      have d1 := (hb0r.cell (p := ⟨b1, o1 + i * 3, none⟩) hbb1).trans c1
      have d2 := (hb0r.cell (p := ⟨b1, o1 + i * 3 + 1, none⟩) hbb1).trans c2
      have d3 := (hb0r.cell (p := ⟨b1, o1 + i * 3 + 2, none⟩) hbb1).trans c3
      obtain ⟨p1, p2, p3, p4⟩ := HP.out i (by omega)
      clear hc1 c1 c2 c3 hA
      go_wp2_with fail
      refine (wrong_ok _ _ _ p1 p2 p3 p4).mono ?_
      first | rintro e w2 rfl hb2 | rintro e w2 ⟨rfl, hb2⟩
      have hb2' : Below W1.heap.size W1 w2 := (hbw.alloc hzr _).trans (hb2.mono (by simp; omega))
      clear hb2
      go_wp2_with fail
      go_roundw
      case rel => exact ⟨i + 1, by go_num, by omega, hb2'⟩
      case measure => simp [intOf]; omega
    · have hk2 := hk1.below hbw (by omega)
      have q1 : wr.cell? ⟨w.heap.size, 1, none⟩ = some (.slice none 0 0) := hk2.cell 1
      go_wp2_with fail
      go_rounds 1
      go_ret
      exact ⟨rfl, hb0r⟩

theorem segments_ok (v : Value) (w : World) : Calls Tryz.prog 162 #[.agg #[v, .slice none 0 0, .slice none 0 0]] w fun e w' => e = .returned (.tuple #[.slice none 0 0, .bool true]) ∧ Below w.heap.size w w' := by
  go_enter Tryz.func162, Tryz.ntmps162
  go_wp2_with fail
  go_rounds 1
  go_ret2
  refine ⟨rfl, ?_⟩
  go_grown

/-- No two nodes have one point. -/
def Apart (ns : List Nd) : Prop := ∀ i j, j < i → i < ns.length → ¬ ((nd ns i).x = (nd ns j).x ∧ (nd ns i).y = (nd ns j).y)

set_option maxHeartbeats 4000000 in
theorem connected_ok (A : Option Addr) (c n : Nat) (ns : List Nd) (vn : Value) (w : World) (hn : ns.length = n) (hx : n ≤ 1000000) (hc : n ≤ c) (hA : RN w A ns) (hp : Apart ns) :
    Calls Tryz.prog 142 #[.agg #[.slice A n c, .slice none 0 0, .slice none 0 0], vn] w fun e w' => e = .returned (.int .i64 0) ∧ Below w.heap.size w w' := by
  have HP := Lib.hid hp
  clear hp
  go_enter Tryz.func142, Tryz.ntmps142
  go_wp2_with fail
  obtain ⟨W1, hW⟩ : ∃ W, w.alloc (.cells #[.slice A n c, .slice none 0 0, .slice none 0 0] 38) = W := ⟨_, rfl⟩
  have hz1 : W1.heap.size = w.heap.size + 1 := by rw [← hW]; simp
  have hb1 : Below w.heap.size w W1 := by rw [← hW]; exact (Below.refl _ _).alloc (Nat.le_refl _) _
  have hk1 : Bk W1 w.heap.size 38 #[.slice A n c, .slice none 0 0, .slice none 0 0] := by rw [← hW]; exact Bk.new _ _ _
  rw [hW]
  clear hW
  go_loopw [18] (fun iv wr => ∃ (i : Nat), iv = .int .i64 i ∧ i ≤ n ∧ Below W1.heap.size W1 wr) (fun iv _ => n - (intOf iv).toNat)
  case atStart => exact ⟨0, rfl, by omega, Below.refl _ _⟩
  case round =>
    obtain ⟨i, rfl, hi, hbw⟩ := hrel
    have hzr := hbw.size
    have hb0r : Below w.heap.size w wr := hb1.trans (hbw.mono hb1.size)
    have hk2 := hk1.below hbw (by omega)
    by_cases hlt : i < n
    · obtain ⟨b1, o1, rfl, hbb1, hc1⟩ := hA i (by omega)
      obtain ⟨c1, c2, c3⟩ := hc1 i (by omega)
      have d1 := (hb0r.cell (p := ⟨b1, o1 + i * 3, none⟩) hbb1).trans c1
      have d2 := (hb0r.cell (p := ⟨b1, o1 + i * 3 + 1, none⟩) hbb1).trans c2
      have d3 := (hb0r.cell (p := ⟨b1, o1 + i * 3 + 2, none⟩) hbb1).trans c3
      have q0 : wr.cell? ⟨w.heap.size, 0, none⟩ = some (.slice (some ⟨b1, o1, none⟩) n c) := hk2.cell 0
      have hlt0 : w.heap.size < wr.heap.size := by omega
      have hne0 : w.heap.size ≠ wr.heap.size := by omega
      clear c1 c2 c3 hA
      go_wp2_with fail
      obtain ⟨W2, hW2⟩ : ∃ W, wr.alloc (.cells #[.int .i64 (nd ns i).id, .int .i64 (nd ns i).x, .int .i64 (nd ns i).y] 33) = W := ⟨_, rfl⟩
      have hz2 : W2.heap.size = wr.heap.size + 1 := by rw [← hW2]; simp
      have hb2 : Below wr.heap.size wr W2 := by rw [← hW2]; exact (Below.refl _ _).alloc (Nat.le_refl _) _
      have hk3 : Bk W2 wr.heap.size 33 #[.int .i64 (nd ns i).id, .int .i64 (nd ns i).x, .int .i64 (nd ns i).y] := by rw [← hW2]; exact Bk.new _ _ _
      rw [hW2]
      clear hW2 d1 d2 d3 q0
      obtain ⟨w0, rfl⟩ : ∃ w0, w0 = wr := ⟨_, rfl⟩
      have HC := Lib.hid hc1
      clear hc1
      go_loopw [28] (fun jv wx => ∃ (j : Nat), jv = .int .i64 j ∧ j ≤ i ∧ Below W2.heap.size W2 wx) (fun jv _ => i - (intOf jv).toNat)
      case atStart => exact ⟨0, rfl, by omega, Below.refl _ _⟩
      case round =>
        obtain ⟨j, rfl, hj, hbx⟩ := hrel
        have hzx := hbx.size
        have hb2x : Below w0.heap.size w0 wr := hb2.trans (hbx.mono hb2.size)
        have hbWx : Below W1.heap.size W1 wr := hbw.trans (hb2x.mono hzr)
        by_cases hlj : j < i
        · obtain ⟨c1, c2, c3⟩ := HC.out j (by omega)
          have hbx0 : Below w.heap.size w wr := hb0r.trans (hb2x.mono hb0r.size)
          have d1 := (hbx0.cell (p := ⟨b1, o1 + j * 3, none⟩) hbb1).trans c1
          have d2 := (hbx0.cell (p := ⟨b1, o1 + j * 3 + 1, none⟩) hbb1).trans c2
          have d3 := (hbx0.cell (p := ⟨b1, o1 + j * 3 + 2, none⟩) hbb1).trans c3
          have hk4 := hk3.below hbx (by omega)
          have e1 : wr.cell? ⟨w0.heap.size, 1, none⟩ = some (.int .i64 (nd ns i).x) := hk4.cell 1
          have e2 : wr.cell? ⟨w0.heap.size, 2, none⟩ = some (.int .i64 (nd ns i).y) := hk4.cell 2
          have hl4 : w0.heap.size < wr.heap.size := by omega
          have hn4 : w0.heap.size ≠ wr.heap.size := by omega
          have hap := HP.out i j hlj (by omega)
          clear c1 c2 c3
          by_cases hxe : (nd ns i).x = (nd ns j).x
          · have hxb : ((nd ns i).x == (nd ns j).x) = true := by simp [hxe]
            have hyb : ((nd ns i).y == (nd ns j).y) = false := by simp; exact fun h => hap ⟨hxe, h⟩
            clear hxe hap
            go_wp2_with fail
            go_roundw
            case rel => exact ⟨j + 1, by go_num, by omega, hbx.alloc hzx _⟩
            case measure => simp [intOf]; omega
          · have hxb : ((nd ns i).x == (nd ns j).x) = false := by simp [hxe]
            clear hxe hap
            go_wp2_with fail
            go_roundw
            case rel => exact ⟨j + 1, by go_num, by omega, hbx.alloc hzx _⟩
            case measure => simp [intOf]; omega
        · go_wp2_with fail
          go_roundw
          case rel => exact ⟨i + 1, by go_num, by omega, hbWx⟩
          case measure => simp [intOf]; omega
    · have q1 : wr.cell? ⟨w.heap.size, 1, none⟩ = some (.slice none 0 0) := hk2.cell 1
      go_wp2_with fail
      go_rounds 1
      go_rounds 1
      go_ret
      exact ⟨rfl, hb0r⟩
end Go.Proofs.YtcbobceggjndlaaGreatDoor
