/-
  slices.SortFunc at entries (at most twelve), by the order of the gazetteer.
-/
import Derived.Test.YtcbobceggjndlaaGreatDoorGzG
import Derived.Test.YtcbobceggjndlaaGreatDoorDrawn
import Derived.Test.YtcbobceggjndlaaGreatDoorSortF
set_option linter.unusedVariables false
set_option linter.unusedSimpArgs false
namespace Go.Proofs.YtcbobceggjndlaaGreatDoor
open Go.RowKit Go.Shelf Go.Lib Go.Sort

/-- What the calls of the names' order want of memory, all below B. -/
structure Kn (B : Nat) (w : World) : Prop where
  tab : Gl.Tab w
  max : MaxOk w
  tlt : 0 < B
  mlt : 1 < B
theorem Kn.below {B : Nat} {w w' : World} (h : Kn B w) (hb : Below B w w') : Kn B w' := by
  refine ⟨?_, ?_, h.tlt, h.mlt⟩
  · obtain ⟨t, fr, e⟩ := h.tab
    exact ⟨t, fr, (hb.block _ h.tlt).trans e⟩
  · obtain ⟨m, e⟩ := h.max
    exact ⟨m, (hb.cell (p := ⟨1, 0, none⟩) h.mlt).trans e⟩
theorem Kn.mono {B B' : Nat} {w : World} (h : Kn B w) (hb : B ≤ B') : Kn B' w := ⟨h.tab, h.max, Nat.lt_of_lt_of_le h.tlt hb, Nat.lt_of_lt_of_le h.mlt hb⟩
theorem entC_len (x : Ent) : (entC x).length = 4 := rfl
theorem entC_one (x : Ent) : ∀ v ∈ entC x, v.oneCell' = true := by
  intro v hv
  simp [entC] at hv
  rcases hv with rfl | rfl | rfl | rfl <;> rfl
/-- A row of entries out of its cells. -/
theorem OE.of_cells {w : World} {B g cap : Nat} {cur : Array Value} {es : List Ent} (hg : B ≤ g) (hh : w.heap[g]? = some (.cells cur 29 (0, 0))) (hn : es.length ≤ cap) (hc : cap ≤ maxLen) (hs : cur.size = cap * 4)
    (h : ∀ j i, j < es.length → i < 4 → w.cell? ⟨g, j * 4 + i, none⟩ = (entC (en es j))[i]?) : OE w B (.slice (some ⟨g, 0, none⟩) es.length cap) es := by
  refine ⟨ents_len es, Or.inr ⟨g, cap, cur, rfl, hg, hh, hn, hc, hs, ?_⟩⟩
  apply List.ext_getElem?
  intro t
  by_cases ht : t < es.length * 4
  · have e : t = t / 4 * 4 + t % 4 := by omega
    rw [List.getElem?_take, if_pos ht]
    have h1 := h (t / 4) (t % 4) (by omega) (by omega)
    rw [← e] at h1
    have h2 := ents_at es (t / 4) (t % 4) (by omega) (by omega)
    rw [← e] at h2
    rw [h2, ← h1]
    simp [World.cell?, hh]
  · rw [List.getElem?_eq_none (by simp; omega), List.getElem?_eq_none (by rw [ents_len]; omega)]
variable {α : Type} [Inhabited α]
theorem sortWorld_block (enc : α → List Value) (w : World) (g m : Nat) (d : Array α) (os : Array Obj) {cur : Array Value} {t : TypeId} {fr : Nat × Nat} (h : w.heap[g]? = some (.cells cur t fr)) :
    (sortWorldK enc 4 w g 0 m d os).heap[g]? = some (.cells (putCells id 0 (flatK enc 4 d) cur) t fr) := by
  have hl := (Array.getElem?_eq_some_iff.1 h).1
  unfold sortWorldK grow putRowK putRow mapBlock Sort.ahead
  simp only []
  rw [Array.getElem?_append_left (by simpa using hl), Array.getElem?_modify]
  simp [h, onCells]
theorem sortWorld_below (enc : α → List Value) (w : World) (g m B : Nat) (d : Array α) (os : Array Obj) (hg : B ≤ g) (hB : B ≤ w.heap.size) : Below B w (sortWorldK enc 4 w g 0 m d os) := by
  refine ⟨rfl, rfl, rfl, ?_, ?_⟩
  · simp [sortWorldK, grow, putRowK, putRow, mapBlock, Sort.ahead]
  · intro k hk
    unfold sortWorldK grow putRowK putRow mapBlock Sort.ahead
    simp only []
    rw [Array.getElem?_append_left (by simp; omega), Array.getElem?_modify, if_neg (by omega)]
theorem en_map (pick : α → Ent) (d : Array α) {j : Nat} (hj : j < d.size) : en (d.toList.map pick) j = pick d[j]! := by
  rw [en_eq (by simpa using hj)]
  simp [hj]
/-- The order of the gazetteer, through a name for the entries. -/
def cfOf (pick : α → Ent) (x y : α) : Int := Gz.cmp (pick x) (pick y)
theorem bitsLen_some (n : Nat) (W : World) (hn : n ≤ 12) : Calls Tryz.prog 91 #[.int .u64 n] W fun e w' => (∃ l : Int, e = .returned (.int .i64 l)) ∧ w' = W :=
  (Tryz.bits_Len n W (by omega) (by omega)).mono fun _ _ ⟨he, hw⟩ => ⟨⟨_, he⟩, hw⟩
set_option maxHeartbeats 4000000 in
theorem sort_small (pick : α → Ent) (hp : ∀ x, (pick x).name.size ≤ 1000000000000) (d : Array α) (v : Value) (w : World) (B : Nat) (hk : Kn B w) (hB : B ≤ w.heap.size) (ho : OE w B v (d.toList.map pick)) (h0 : 0 < d.size) (h12 : d.size ≤ 12) (hs : (insertionSort (ltOf (cfOf pick)) d 0 d.size).size = d.size) :
    Calls Tryz.prog 58 #[v, .func (.func 15) #[] #[]] w fun e w' => e = .returned (.tuple #[]) ∧ OE w' B v ((insertionSort (ltOf (cfOf pick)) d 0 d.size).toList.map pick) ∧ Below B w w' := by
  obtain ⟨hl, hr⟩ := ho
  rcases hr with ⟨rfl, hn⟩ | ⟨g, cap, cur, rfl, hg, hh, hn, hm, hsz, hcur⟩
  · have e : (d.toList.map pick).length = d.size := by simp
    rw [e] at hn; omega
  have hH : HoldsK (fun x => entC (pick x)) 4 w g 0 d := by
    intro j hj
    rw [size_flatK] at hj
    rw [get_flatK _ _ _ _ hj]
    have hj4 : j / 4 < (d.toList.map pick).length := by simp; omega
    have e1 : cur.toList[j]? = (entC (pick d[j / 4]!))[j % 4]? := by
      have h3 : (cur.toList.take ((d.toList.map pick).length * 4))[j]? = _ := congrArg (fun l => l[j]?) hcur
      have h4 := ents_at (d.toList.map pick) (j / 4) (j % 4) hj4 (by omega)
      rw [List.getElem?_take, if_pos (by simp; omega)] at h3
      rw [show j / 4 * 4 + j % 4 = j by omega] at h4
      rw [h3, h4, en_map pick d (by omega)]
    refine ⟨?_, ?_⟩
    · have h4 : j % 4 < 4 := by omega
      simp only [World.cell?, hh, Nat.zero_add]
      rw [show cur[j]? = cur.toList[j]? by simp, e1]
      have h5 : j % 4 < (entC (pick d[j / 4]!)).length := by rw [entC_len]; exact h4
      rw [List.getElem?_eq_getElem h5, getElem!_pos (entC (pick d[j / 4]!)) (j % 4) h5]
      rfl
    · simp [World.frozen?, hh]
  have hlt := (Array.getElem?_eq_some_iff.1 hh).1
  have hcmp : CmpLays Tryz.prog 15 #[] (fun x => entC (pick x)) 4 (cfOf pick) g 0 d.size w := by
    intro m os dk hdk x y
    have hK := hk.below (sortWorld_below (fun x => entC (pick x)) w g m B dk os hg hB)
    exact calls_grow (gcm_at (pick x) (pick y) _ _ hK.tab hK.max (hp x) (hp y) rfl)
  have hc := AnyQ.slices_SortFunc_small Tryz.sortEnt 4 (fun w => by kernel_rfl) (fun w => by kernel_rfl) (fun x => entC (pick x)) (fun x => rfl) (fun x => entC_one (pick x)) (cfOf pick) 15 #[] g 0 cap d w
    (enters_of Tryz.func15 (by kernel_rfl) rfl) hcmp hH hlt h12 bitsLen_some
  have e0 : (d.toList.map pick).length = d.size := by simp
  rw [e0]
  refine Calls.mono hc ?_
  rintro e w' ⟨rfl, n, os, rfl⟩
  refine ⟨rfl, ?_, sortWorld_below _ w g n B _ os hg hB⟩
  have hb := sortWorld_block (fun x => entC (pick x)) w g n (insertionSort (ltOf (cfOf pick)) d 0 d.size) os hh
  have hH2 := holdsK_sortWorldK_c (fun x => entC (pick x)) 4 w g 0 d (insertionSort (ltOf (cfOf pick)) d 0 d.size) n os hH hlt hs
  have e2 : d.size = ((insertionSort (ltOf (cfOf pick)) d 0 d.size).toList.map pick).length := by simp [hs]
  have key := OE.of_cells (es := (insertionSort (ltOf (cfOf pick)) d 0 d.size).toList.map pick) (B := B) (cap := cap) hg hb (by rw [← e2]; rw [e0] at hn; exact hn) hm (by simp [putCells, hsz]) ?_
  · rw [← e2] at key; exact key
  · intro j i hj hi
    rw [← e2] at hj
    rw [en_map pick _ (by rw [hs]; exact hj)]
    have := (hH2.cell (i := j) (c := i) (by rw [hs]; exact hj) hi).1
    rw [Nat.zero_add] at this
    rw [this]
    have h5 : i < (entC (pick (insertionSort (ltOf (cfOf pick)) d 0 d.size)[j]!)).length := by rw [entC_len]; exact hi
    rw [List.getElem?_eq_getElem h5, getElem!_pos _ i h5]
end Go.Proofs.YtcbobceggjndlaaGreatDoor
