/-
  Walks of layer 6: value, unit.
-/
import Derived.Test.YtlcjfphhogcenaaDoorGlyphB
import Derived.Test.YtlcjfphhogcenaaDoorPlainU
import Derived.Laws.IdiomStrings
set_option linter.unusedVariables false
set_option linter.unusedSimpArgs false
namespace Go.Proofs.YtlcjfphhogcenaaDoor
open Go.RowKit
theorem wrap_byte (a : UInt8) : wrap64 (a.toNat : Int) = a.toNat := by
  have := a.toNat_lt
  exact IntWalk.wrap64_in _ ⟨by omega, by omega⟩
theorem tmod_nn {a b : Int} (h : 0 ≤ a) : a.tmod b = a % b := Int.tmod_eq_emod_of_nonneg h
theorem val2 (a b : UInt8) : wrap64 (wrap64 ((wrap64 (a.toNat : Int)).tmod 32 * 64) + (wrap64 (b.toNat : Int)).tmod 64) = Gl.value [a, b] := by
  rw [wrap_byte, wrap_byte, tmod_nn (by omega), tmod_nn (by omega)]
  have h1 : wrap64 ((a.toNat : Int) % 32 * 64) = (a.toNat : Int) % 32 * 64 := IntWalk.wrap64_in _ ⟨by omega, by omega⟩
  rw [h1]
  exact IntWalk.wrap64_in _ ⟨by omega, by omega⟩
theorem val3 (a b c : UInt8) : wrap64 (wrap64 (wrap64 ((wrap64 (a.toNat : Int)).tmod 16 * 4096) + wrap64 ((wrap64 (b.toNat : Int)).tmod 64 * 64)) + (wrap64 (c.toNat : Int)).tmod 64) = Gl.value [a, b, c] := by
  rw [wrap_byte, wrap_byte, wrap_byte, tmod_nn (by omega), tmod_nn (by omega), tmod_nn (by omega)]
  have h1 : wrap64 ((a.toNat : Int) % 16 * 4096) = (a.toNat : Int) % 16 * 4096 := IntWalk.wrap64_in _ ⟨by omega, by omega⟩
  have h2 : wrap64 ((b.toNat : Int) % 64 * 64) = (b.toNat : Int) % 64 * 64 := IntWalk.wrap64_in _ ⟨by omega, by omega⟩
  rw [h1, h2]
  have h3 : wrap64 ((a.toNat : Int) % 16 * 4096 + (b.toNat : Int) % 64 * 64) = (a.toNat : Int) % 16 * 4096 + (b.toNat : Int) % 64 * 64 := IntWalk.wrap64_in _ ⟨by omega, by omega⟩
  rw [h3]
  exact IntWalk.wrap64_in _ ⟨by omega, by omega⟩
theorem rvalue1 (a : UInt8) (w : World) :
    Calls Tryd.prog 47 #[.string ⟨#[a]⟩] w fun e w' => e = .returned (.int .i64 (Gl.value [a])) ∧ Below w.heap.size w w' := by
  go_enter Tryd.func47, Tryd.ntmps47
  go_wp2
  go_ret
  exact ⟨ret_int (wrap_byte a), Below.refl _ _⟩
theorem rvalue2 (a b : UInt8) (w : World) :
    Calls Tryd.prog 47 #[.string ⟨#[a, b]⟩] w fun e w' => e = .returned (.int .i64 (Gl.value [a, b])) ∧ Below w.heap.size w w' := by
  go_enter Tryd.func47, Tryd.ntmps47
  go_wp2
  go_quiet (fail)
  go_wp2
  go_ret
  exact ⟨ret_int (val2 a b), below_drewN (Below.refl _ _) _⟩
theorem rvalue3 (a b c : UInt8) (w : World) :
    Calls Tryd.prog 47 #[.string ⟨#[a, b, c]⟩] w fun e w' => e = .returned (.int .i64 (Gl.value [a, b, c])) ∧ Below w.heap.size w w' := by
  go_enter Tryd.func47, Tryd.ntmps47
  go_wp2
  go_quiet (fail)
  go_wp2
  go_ret
  exact ⟨ret_int (val3 a b c), below_drewN (Below.refl _ _) _⟩
theorem rvalue_any (s : ByteArray) (w : World) (h1 : 1 ≤ s.size) (h3 : s.size ≤ 3) :
    Calls Tryd.prog 47 #[.string s] w fun e w' => e = .returned (.int .i64 (Gl.value s.data.toList)) ∧ Below w.heap.size w w' := by
  obtain ⟨⟨l⟩⟩ := s
  match l, h1, h3 with
  | [a], _, _ => exact rvalue1 a w
  | [a, b], _, _ => exact rvalue2 a b w
  | [a, b, c], _, _ => exact rvalue3 a b c w
  | [], h, _ => simp [ByteArray.size] at h
  | a :: b :: c :: d :: r, _, h => simp [ByteArray.size] at h

theorem u8_nat {x : Int} (h0 : 0 ≤ x) (h1 : x ≤ 255) : ((UInt8.ofNat x.toNat).toNat : Int) = x := by
  rw [UInt8.toNat_ofNat']; omega
theorem conv_new (xs : List Int) (h : ∀ x ∈ xs, 0 ≤ x ∧ x ≤ 255) (w : World) :
    (convert 52 9 (.slice (some ⟨w.heap.size, 0, none⟩) xs.length xs.length)).run Tryd.prog (w.alloc (.cells (xs.map (Value.int .u8)).toArray 5)) =
      .ok (.string ⟨(xs.map (fun x => UInt8.ofNat x.toNat)).toArray⟩) (w.alloc (.cells (xs.map (Value.int .u8)).toArray 5)) := by
  have := run_convert_bytes_back (P := Tryd.prog) (w.alloc (.cells (xs.map (Value.int .u8)).toArray 5)) 52 9 5 ⟨w.heap.size, 0, none⟩ xs.length (xs.map (fun x => UInt8.ofNat x.toNat)) Tryd.underlying52 Tryd.underlying5 Tryd.underlying9 (fun j hj => by
    have hj' : j < xs.length := by simpa using hj
    have e : (Addr.add ⟨w.heap.size, 0, none⟩ j) = ⟨w.heap.size, j, none⟩ := by unfold Addr.add; split <;> simp_all
    rw [e]
    simp only [List.getElem_map]
    obtain ⟨a, b⟩ := h xs[j] (List.getElem_mem _)
    rw [u8_nat a b]
    have hh := heap_alloc_new w (.cells (xs.map (Value.int .u8)).toArray 5)
    unfold World.cell?
    rw [hh]
    simp [hj'])
  simpa using this

theorem ret_str {l l' : List UInt8} (h : l = l') : Ending.returned (.string ⟨l.toArray⟩) = .returned (.string ⟨l'.toArray⟩) := by rw [h]
theorem Gl.unit_one {r : Int} (h : r < 128) : Gl.unit r = [UInt8.ofNat r.toNat] := by unfold Gl.unit; rw [if_pos h]
theorem Gl.unit_two {r : Int} (h0 : 0 ≤ r) (h1 : 128 ≤ r) (h : r < 2048) : Gl.unit r = [UInt8.ofNat (192 + r / 64).toNat, UInt8.ofNat (128 + r % 64).toNat] := by
  unfold Gl.unit; rw [if_neg (by omega), if_pos h, show (192 + r / 64).toNat = 192 + r.toNat / 64 by omega, show (128 + r % 64).toNat = 128 + r.toNat % 64 by omega]
theorem Gl.unit_three {r : Int} (h0 : 0 ≤ r) (h : 2048 ≤ r) : Gl.unit r = [UInt8.ofNat (224 + r / 4096).toNat, UInt8.ofNat (128 + r / 64 % 64).toNat, UInt8.ofNat (128 + r % 64).toNat] := by
  unfold Gl.unit
  rw [if_neg (by omega), if_neg (by omega), show (224 + r / 4096).toNat = 224 + r.toNat / 4096 by omega, show (128 + r / 64 % 64).toNat = 128 + r.toNat / 64 % 64 by omega, show (128 + r % 64).toNat = 128 + r.toNat % 64 by omega]

theorem runit_any (r : Int) (w : World) (h0 : 0 ≤ r) (h1 : r ≤ 65535) :
    Calls Tryd.prog 48 #[.int .i64 r] w fun e w' => e = .returned (.string ⟨(Gl.unit r).toArray⟩) ∧ Below w.heap.size w w' := by
  by_cases h2 : r < 128
  · have hk := conv_new [r] (by simp; omega)
    simp only [List.map_cons, List.map_nil, List.length_cons, List.length_nil] at hk
    go_enter Tryd.func48, Tryd.ntmps48
    go_wp2
    go_ret
    exact ⟨ret_str (Gl.unit_one h2).symm, (Below.refl _ _).alloc (Nat.le_refl _) _⟩
  by_cases h3 : r < 2048
  · have hk := conv_new [192 + r / 64, 128 + r % 64] (by simp; omega)
    simp only [List.map_cons, List.map_nil, List.length_cons, List.length_nil] at hk
    go_enter Tryd.func48, Tryd.ntmps48
    go_wp2
    go_ret
    exact ⟨ret_str (Gl.unit_two h0 (by omega) h3).symm, (Below.refl _ _).alloc (Nat.le_refl _) _⟩
  · have hk := conv_new [224 + r / 4096, 128 + r / 64 % 64, 128 + r % 64] (by simp; omega)
    simp only [List.map_cons, List.map_nil, List.length_cons, List.length_nil] at hk
    go_enter Tryd.func48, Tryd.ntmps48
    go_wp2
    go_ret
    exact ⟨ret_str (Gl.unit_three h0 (by omega)).symm, (Below.refl _ _).alloc (Nat.le_refl _) _⟩
end Go.Proofs.YtlcjfphhogcenaaDoor
