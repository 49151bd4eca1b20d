/-
  Entries of the gazetteer: the order of texts and of entries.
-/
import Derived.Test.YtcbobceggjndlaaGreatDoorGzA
import Derived.Deep.RegionHeld3
import Derived.Deep.DrawnRows
set_option linter.unusedVariables false
set_option linter.unusedSimpArgs false
namespace Go.Proofs.YtcbobceggjndlaaGreatDoor
open Go.RowKit

theorem cb_step {a b : List UInt8} {i : Nat} (h1 : i < a.length) (h2 : i < b.length) :
    Lib.compareBytes (a.drop i) (b.drop i) = if a[i] < b[i] then -1 else if b[i] < a[i] then 1 else Lib.compareBytes (a.drop (i + 1)) (b.drop (i + 1)) := by
  rw [List.drop_eq_getElem_cons h1, List.drop_eq_getElem_cons h2, Lib.compareBytes]
theorem cb_left {a b : List UInt8} {i : Nat} (h1 : a.length ≤ i) (h2 : i < b.length) : Lib.compareBytes (a.drop i) (b.drop i) = -1 := by
  rw [List.drop_eq_nil_of_le h1, List.drop_eq_getElem_cons h2, Lib.compareBytes]
theorem cb_right {a b : List UInt8} {i : Nat} (h1 : i < a.length) (h2 : b.length ≤ i) : Lib.compareBytes (a.drop i) (b.drop i) = 1 := by
  rw [List.drop_eq_nil_of_le h2, List.drop_eq_getElem_cons h1, Lib.compareBytes]
theorem cb_none {a b : List UInt8} {i : Nat} (h1 : a.length ≤ i) (h2 : b.length ≤ i) : Lib.compareBytes (a.drop i) (b.drop i) = 0 := by
  rw [List.drop_eq_nil_of_le h2, List.drop_eq_nil_of_le h1, Lib.compareBytes]
/-- A number of the sign of another one. -/
def Sgn (n m : Int) : Prop := (n = 0 ↔ m = 0) ∧ (n < 0 ↔ m < 0)
def TextPost (m : Int) (w : World) (e : Ending) (w' : World) : Prop := ∃ n : Int, e = .returned (.int .i64 n) ∧ Sgn n m ∧ Below w.heap.size w w'
theorem byte_at {a : ByteArray} {i : Nat} (h : i < a.size) (h' : i < a.data.toList.length) : a.data.toList[i] = a[i]'h := by
  obtain ⟨⟨l⟩⟩ := a
  rfl
theorem u8_lt {x y : UInt8} : ((x.toNat : Int) < (y.toNat : Int)) ↔ x < y := by rw [UInt8.lt_iff_toNat_lt]; omega

set_option maxHeartbeats 4000000 in
theorem rtext_any (a b : ByteArray) (w : World) (ha : a.size ≤ 1000000000000) (hb : b.size ≤ 1000000000000) :
    Calls Tryz.prog 40 #[.string a, .string b] w (TextPost (Lib.compareBytes a.data.toList b.data.toList) w) := by
  have la : a.data.toList.length = a.size := Array.length_toList
  have lb : b.data.toList.length = b.size := Array.length_toList
  have HLA := Lib.hid la
  have HLB := Lib.hid lb
  clear la lb
  go_enter Tryz.func40, Tryz.ntmps40
  go_wp2_with fail
  go_loopw [5] (fun iv wr => ∃ i : Nat, iv = .int .i64 i ∧ i ≤ a.size ∧ i ≤ b.size ∧ Hid (Lib.compareBytes a.data.toList b.data.toList = Lib.compareBytes (a.data.toList.drop i) (b.data.toList.drop i)) ∧ Below w.heap.size w wr) (fun iv _ => a.size - (intOf iv).toNat)
  case atStart => exact ⟨0, rfl, by omega, by omega, Lib.hid (by simp), Below.refl _ _⟩
  case round =>
    obtain ⟨i, rfl, hi, hj, HC, hbw⟩ := hrel
    by_cases h1 : i < a.size
    · by_cases h2 : i < b.size
      · have hS := cb_step (a := a.data.toList) (b := b.data.toList) (i := i) (by have := HLA.out; omega) (by have := HLB.out; omega)
        rw [byte_at h1, byte_at h2] at hS
        have HS := Lib.hid hS
        clear hS
        have x1 : (i : Int) < a.size := by omega
        have x2 : (i : Int) < b.size := by omega
        have x0 : (0 : Int) ≤ i := by omega
        by_cases e1 : a[i]'h1 = b[i]'h2
        · have HT := Lib.hid (show Lib.compareBytes a.data.toList b.data.toList = Lib.compareBytes (a.data.toList.drop (i + 1)) (b.data.toList.drop (i + 1)) by rw [HC.out, HS.out, e1]; simp)
          have y1 : ((((a[i]'h1).toNat : Nat) : Int) != (((b[i]'h2).toNat : Nat) : Int)) = false := by rw [e1]; simp
          clear e1
          go_wp2_with fail
          go_region
          all_goals
            go_wp2_with fail
            go_roundw
            case rel => exact ⟨i + 1, by go_num, by omega, by omega, HT, hbw.drew⟩
            case measure => simp [intOf]; omega
        · have y1 : ((((a[i]'h1).toNat : Nat) : Int) != (((b[i]'h2).toNat : Nat) : Int)) = true := by
            rw [bne_iff_ne]; intro h; exact e1 (UInt8.toNat_inj.1 (by omega))
          by_cases e2 : a[i]'h1 < b[i]'h2
          · have HT := Lib.hid (show Lib.compareBytes a.data.toList b.data.toList = -1 by rw [HC.out, HS.out, if_pos e2])
            have y2 : (((a[i]'h1).toNat : Nat) : Int) < (((b[i]'h2).toNat : Nat) : Int) := u8_lt.2 e2
            clear e1 e2
            go_wp2_with fail
            go_region
            all_goals
              go_wp2_with fail
              go_region
              all_goals
                go_wp2_with fail
                go_ret
                exact ⟨_, rfl, by rw [HT.out]; unfold Sgn; decide, hbw.drew.drew⟩
          · have e3 : b[i]'h2 < a[i]'h1 := by
              rw [UInt8.lt_iff_toNat_lt] at e2 ⊢
              have : (a[i]'h1).toNat ≠ (b[i]'h2).toNat := fun h => e1 (UInt8.toNat_inj.1 h)
              omega
            have HT := Lib.hid (show Lib.compareBytes a.data.toList b.data.toList = 1 by rw [HC.out, HS.out, if_neg e2, if_pos e3])
            have y2 : (((b[i]'h2).toNat : Nat) : Int) ≤ (((a[i]'h1).toNat : Nat) : Int) := Int.le_of_lt (u8_lt.2 e3)
            clear e1 e2 e3
            go_wp2_with fail
            go_region
            all_goals
              go_wp2_with fail
              go_region
              all_goals
                go_wp2_with fail
                go_ret
                exact ⟨_, rfl, by rw [HT.out]; unfold Sgn; decide, hbw.drew.drew⟩
      · have HT := Lib.hid (show Lib.compareBytes a.data.toList b.data.toList = 1 by rw [HC.out]; exact cb_right (by have := HLA.out; omega) (by have := HLB.out; omega))
        have x1 : (i : Int) < a.size := by omega
        have x2 : ¬ ((i : Int) < b.size) := by omega
        have HL := Lib.hid (show (0 : Int) < (a.size : Int) - b.size by omega)
        go_wp2_with fail
        go_ret
        refine ⟨_, rfl, ?_, hbw⟩
        rw [HT.out]
        have := HL.out
        unfold Sgn
        omega
    · have x1 : ¬ ((i : Int) < a.size) := by omega
      rcases Nat.lt_or_ge i b.size with h2 | h2
      · have HT := Lib.hid (show Lib.compareBytes a.data.toList b.data.toList = -1 by rw [HC.out]; exact cb_left (by have := HLA.out; omega) (by have := HLB.out; omega))
        have HL := Lib.hid (show (a.size : Int) - b.size < 0 by omega)
        go_wp2_with fail
        go_ret
        refine ⟨_, rfl, ?_, hbw⟩
        rw [HT.out]
        have := HL.out
        unfold Sgn
        omega
      · have HT := Lib.hid (show Lib.compareBytes a.data.toList b.data.toList = 0 by rw [HC.out]; exact cb_none (by have := HLA.out; omega) (by have := HLB.out; omega))
        have HL := Lib.hid (show (a.size : Int) - b.size = 0 by omega)
        go_wp2_with fail
        go_ret
        refine ⟨_, rfl, ?_, hbw⟩
        rw [HT.out]
        have := HL.out
        unfold Sgn
        omega
end Go.Proofs.YtcbobceggjndlaaGreatDoor
