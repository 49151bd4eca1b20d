/-
  What a survey that comes in stands for.
-/
import Derived.Test.YtbfljfjjnijigaaGreatDoorProg
import Derived.Test.YtbfljfjjnijigaaGreatDoorMb
set_option linter.unusedVariables false
set_option linter.unusedSimpArgs false
namespace Go.Proofs.YtbfljfjjnijigaaGreatDoor
open Go Go.RowKit Go.ChangeShapes Go.WideShapes
set_option maxRecDepth 100000

theorem rdc_int : Tryz.prog.cellsOf 3 = 1 := by kernel_rfl
theorem rdc_str : Tryz.prog.cellsOf 9 = 1 := by kernel_rfl
theorem rdc_pt : Tryz.prog.cellsOf 57 = 2 := by kernel_rfl
theorem rdc_node : Tryz.prog.cellsOf 59 = 3 := by kernel_rfl
theorem rdc_arc : Tryz.prog.cellsOf 63 = 6 := by kernel_rfl
theorem rdc_ft : Tryz.prog.cellsOf 33 = 5 := by kernel_rfl
theorem rdc_plan : Tryz.prog.cellsOf 26 = 3 := by kernel_rfl
theorem rdc_survey : Tryz.prog.cellsOf 29 = 4 := by kernel_rfl
theorem rdc_ints : Tryz.prog.cellsOf 24 = 1 := by kernel_rfl
theorem rdc_points : Tryz.prog.cellsOf 52 = 1 := by kernel_rfl
theorem rdc_nodes : Tryz.prog.cellsOf 22 = 1 := by kernel_rfl
theorem rdc_arcs : Tryz.prog.cellsOf 23 = 1 := by kernel_rfl
theorem rdc_fts : Tryz.prog.cellsOf 27 = 1 := by kernel_rfl
section
variable {W : World}
theorem rd_int : Reads Tryz.prog W 3 intc := reads_int Tryz.underlying3
theorem rd_ints : Reads Tryz.prog W 24 (fun q : SlOf 1 intc => [q.v]) := reads_slice Tryz.underlying24 rdc_int (by omega) intc_len rd_int
theorem rd_str : Reads Tryz.prog W 9 (fun s : { s : ByteArray // s.size ≤ maxLen } => [IV.str s.1]) := reads_str Tryz.underlying9
theorem rd_pt : Reads Tryz.prog W 57 Pt.c := fun H enc fuel cs x h => by
  obtain ⟨xs, n, rfl, hx, hl, hxl, hall⟩ := DataW.trod_struct Tryz.underlying57 h
  rw [rdc_pt] at hl
  match cs, hl, xs, hxl with
  | [v0, v1], _, [x0, x1], _ =>
    have h0 := hall 0 _ rfl
    have h1 := hall 1 _ rfl
    simp [rdc_int] at h0 h1
    obtain ⟨a, ha⟩ := rd_int _ _ _ _ _ h0
    obtain ⟨b, hb⟩ := rd_int _ _ _ _ _ h1
    exact ⟨⟨a, b⟩, ha.append hb⟩
theorem rd_points : Reads Tryz.prog W 52 (fun q : SlOf 2 Pt.c => [q.v]) := reads_slice Tryz.underlying52 rdc_pt (by omega) Pt.c_len rd_pt
theorem rd_node : Reads Tryz.prog W 59 Nd.c := fun H enc fuel cs x h => by
  obtain ⟨xs, n, rfl, hx, hl, hxl, hall⟩ := DataW.trod_struct Tryz.underlying59 h
  rw [rdc_node] at hl
  match cs, hl, xs, hxl with
  | [v0, v1, v2], _, [x0, x1], _ =>
    have h0 := hall 0 _ rfl
    have h1 := hall 1 _ rfl
    simp [rdc_int, rdc_pt] at h0 h1
    obtain ⟨a, ha⟩ := rd_int _ _ _ _ _ h0
    obtain ⟨b, hb⟩ := rd_pt _ _ _ _ _ h1
    exact ⟨⟨a, b⟩, ha.append hb⟩
theorem rd_nodes : Reads Tryz.prog W 22 (fun q : SlOf 3 Nd.c => [q.v]) := reads_slice Tryz.underlying22 rdc_node (by omega) Nd.c_len rd_node
theorem rd_arc : Reads Tryz.prog W 63 Ac.c := fun H enc fuel cs x h => by
  obtain ⟨xs, n, rfl, hx, hl, hxl, hall⟩ := DataW.trod_struct Tryz.underlying63 h
  rw [rdc_arc] at hl
  match cs, hl, xs, hxl with
  | [v0, v1, v2, v3, v4, v5], _, [x0, x1, x2, x3, x4, x5], _ =>
    have h0 := hall 0 _ rfl
    have h1 := hall 1 _ rfl
    have h2 := hall 2 _ rfl
    have h3 := hall 3 _ rfl
    have h4 := hall 4 _ rfl
    have h5 := hall 5 _ rfl
    simp [rdc_int, rdc_points] at h0 h1 h2 h3 h4 h5
    obtain ⟨a, ha⟩ := rd_int _ _ _ _ _ h0
    obtain ⟨b, hb⟩ := rd_int _ _ _ _ _ h1
    obtain ⟨c, hc⟩ := rd_int _ _ _ _ _ h2
    obtain ⟨q, hq⟩ := rd_points _ _ _ _ _ h3
    obtain ⟨e, he⟩ := rd_int _ _ _ _ _ h4
    obtain ⟨f, hf⟩ := rd_int _ _ _ _ _ h5
    exact ⟨⟨a, b, c, q, e, f⟩, ((((ha.append hb).append hc).append hq).append he).append hf⟩
theorem rd_arcs : Reads Tryz.prog W 23 (fun q : SlOf 6 Ac.c => [q.v]) := reads_slice Tryz.underlying23 rdc_arc (by omega) Ac.c_len rd_arc
theorem rd_ft : Reads Tryz.prog W 33 Ft.c := fun H enc fuel cs x h => by
  obtain ⟨xs, n, rfl, hx, hl, hxl, hall⟩ := DataW.trod_struct Tryz.underlying33 h
  rw [rdc_ft] at hl
  match cs, hl, xs, hxl with
  | [v0, v1, v2, v3, v4], _, [x0, x1, x2, x3, x4], _ =>
    have h0 := hall 0 _ rfl
    have h1 := hall 1 _ rfl
    have h2 := hall 2 _ rfl
    have h3 := hall 3 _ rfl
    have h4 := hall 4 _ rfl
    simp [rdc_int, rdc_str, rdc_ints] at h0 h1 h2 h3 h4
    obtain ⟨a, ha⟩ := rd_int _ _ _ _ _ h0
    obtain ⟨b, hb⟩ := rd_int _ _ _ _ _ h1
    obtain ⟨c, hc⟩ := rd_int _ _ _ _ _ h2
    obtain ⟨q, hq⟩ := rd_str _ _ _ _ _ h3
    obtain ⟨e, he⟩ := rd_ints _ _ _ _ _ h4
    exact ⟨⟨a, b, c, q, e⟩, (((ha.append hb).append hc).append hq).append he⟩
theorem rd_fts : Reads Tryz.prog W 27 (fun q : SlOf 5 Ft.c => [q.v]) := reads_slice Tryz.underlying27 rdc_ft (by omega) Ft.c_len rd_ft
theorem rd_plan : Reads Tryz.prog W 26 Pn.c := fun H enc fuel cs x h => by
  obtain ⟨xs, n, rfl, hx, hl, hxl, hall⟩ := DataW.trod_struct Tryz.underlying26 h
  rw [rdc_plan] at hl
  match cs, hl, xs, hxl with
  | [v0, v1, v2], _, [x0, x1, x2], _ =>
    have h0 := hall 0 _ rfl
    have h1 := hall 1 _ rfl
    have h2 := hall 2 _ rfl
    simp [rdc_nodes, rdc_arcs, rdc_ints] at h0 h1 h2
    obtain ⟨a, ha⟩ := rd_nodes _ _ _ _ _ h0
    obtain ⟨b, hb⟩ := rd_arcs _ _ _ _ _ h1
    obtain ⟨c, hc⟩ := rd_ints _ _ _ _ _ h2
    exact ⟨⟨a, b, c⟩, (ha.append hb).append hc⟩
theorem rd_survey : Reads Tryz.prog W 29 Sv.c := fun H enc fuel cs x h => by
  obtain ⟨xs, n, rfl, hx, hl, hxl, hall⟩ := DataW.trod_struct Tryz.underlying29 h
  rw [rdc_survey] at hl
  match cs, hl, xs, hxl with
  | [v0, v1, v2, v3], _, [x0, x1], _ =>
    have h0 := hall 0 _ rfl
    have h1 := hall 1 _ rfl
    simp [rdc_plan, rdc_fts] at h0 h1
    obtain ⟨a, ha⟩ := rd_plan _ _ _ _ _ h0
    obtain ⟨b, hb⟩ := rd_fts _ _ _ _ _ h1
    exact ⟨⟨a, b⟩, ha.append hb⟩
/-- A survey that came in. -/
theorem open_survey {r : Reach} {b0 : Nat} {v : Value} {H : Type} {enc : TypeId × Value → H} {d : DataW H} {ps : List MemPlace} (hval : Value.okWide Tryz.prog W r b0 29 v) (hd : DataW.Trod enc Tryz.prog W 0 (fun _ => true) true 29 v d ps) : ∃ s : Sv, VR noPl W (.agg s.c) v := by
  obtain ⟨cs, rfl, _⟩ := okWide_struct Tryz.underlying29 hval
  obtain ⟨fuel, hf⟩ := hd
  obtain ⟨s, hs⟩ := rd_survey _ _ _ _ _ hf
  refine ⟨s, ?_⟩
  simp only [Value.cells] at hs
  exact .agg (by simpa using hs.1) (fun j x y hx hy => hs.2 j x y hx (by simpa using hy))
end
end Go.Proofs.YtbfljfjjnijigaaGreatDoor
