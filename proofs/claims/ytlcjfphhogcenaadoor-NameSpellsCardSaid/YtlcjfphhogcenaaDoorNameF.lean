/-
  Walks of layer 7: slices.Equal, Same of layer 4, the bytes of a string as numbers.
-/
import Derived.Test.YtlcjfphhogcenaaDoorNameE
set_option linter.unusedVariables false
set_option linter.unusedSimpArgs false
namespace Go.Proofs.YtlcjfphhogcenaaDoor
open Go.RowKit

set_option maxHeartbeats 2000000 in
theorem same4_any (A B : Option Addr) (ca cb : Nat) (xs ys : List Int) (n m : Nat) (w : World) (hn : xs.length = n) (hm : ys.length = m) (hA : RI w A xs) (hB : RI w B ys) (hx : n ≤ 1000000000000000) :
    Calls Tryd.prog 40 #[.slice A n ca, .slice B m cb] w fun e w' => e = .returned (.bool (decide (xs = ys))) ∧ Below w.heap.size w w' := by
  subst hn
  subst hm
  by_cases hl : xs.length = ys.length
  · have HL := Lib.hid hl
    have hl1 : (((xs.length : Int) != (ys.length : Int)) = false) := by simp [hl]
    clear hl
    go_enter Tryd.func40, Tryd.ntmps40
    go_wp2
    go_loopw [5] (fun i wr => ∃ k : Nat, k ≤ xs.length ∧ i = .int .i64 k ∧ Hid (xs.take k = ys.take k) ∧ Below w.heap.size w wr) (fun i _ => xs.length - (intOf i).toNat)
    case atStart => exact ⟨0, by omega, rfl, by simp [Hid], Below.refl _ _⟩
    case round =>
      obtain ⟨k, hk, rfl, hn, hb⟩ := hrel
      by_cases hlt : k < xs.length
      · obtain ⟨b1, o1, rfl, hb1, hc1⟩ := hA k hlt
        obtain ⟨b2, o2, rfl, hb2, hc2⟩ := hB k (by have := HL.out; omega)
        have c1 := (hb.cell (p := ⟨b1, o1 + k, none⟩) hb1).trans (hc1 k hlt)
        have c2 := (hb.cell (p := ⟨b2, o2 + k, none⟩) hb2).trans (hc2 k (by have := HL.out; omega))
        have hlt2 : k < ys.length := by have := HL.out; omega
        clear hc1 hc2 hA hB
        by_cases he : gi xs k = gi ys k
        · have he1 : (gi xs k != gi ys k) = false := by simp [he]
          have HE := Lib.hid he
          clear he
          go_wp2
          go_quiet (fail)
          go_wp2
          go_roundw
          case rel => exact ⟨k + 1, by omega, by go_num, by show _ = _; rw [take_gi hlt, take_gi hlt2, hn.out, HE.out], below_drewN hb _⟩
          case measure => simp [intOf]; omega
        · have he1 : (gi xs k != gi ys k) = true := by simp [he]
          go_wp2
          go_quiet (fail)
          go_wp2
          go_ret
          exact ⟨ret_bool (by simp; intro h; exact he (by rw [h])), below_drewN hb _⟩
      · go_wp2
        go_ret
        exact ⟨ret_bool (by have h1 := hn.out; have h2 := HL.out; rw [List.take_of_length_le (by omega), List.take_of_length_le (by omega)] at h1; simp [h1]), hb⟩
  · have hl1 : (((xs.length : Int) != (ys.length : Int)) = true) := by simp; omega
    go_enter Tryd.func40, Tryd.ntmps40
    go_wp2
    go_ret
    exact ⟨ret_bool (by simp; intro h; exact hl (by rw [h])), Below.refl _ _⟩

set_option maxHeartbeats 2000000 in
theorem equal_any (A B : Option Addr) (ca cb : Nat) (xs ys : List Int) (n m : Nat) (w : World) (hn : xs.length = n) (hm : ys.length = m) (hA : RI w A xs) (hB : RI w B ys) (hx : n ≤ 1000000000000000) :
    Calls Tryd.prog 70 #[.slice A n ca, .slice B m cb] w fun e w' => e = .returned (.bool (decide (xs = ys))) ∧ Below w.heap.size w w' := by
  subst hn
  subst hm
  by_cases hl : xs.length = ys.length
  · have HL := Lib.hid hl
    have hl1 : (((xs.length : Int) != (ys.length : Int)) = false) := by simp [hl]
    clear hl
    go_enter Tryd.func70, Tryd.ntmps70
    go_wp2
    go_loopw [5, 13] (fun _ i wr => ∃ k : Nat, k ≤ xs.length ∧ i = .int .i64 k ∧ Hid (xs.take k = ys.take k) ∧ Below w.heap.size w wr) (fun _ i _ => xs.length - (intOf i).toNat)
    case atStart => exact ⟨0, by omega, rfl, by simp [Hid], Below.refl _ _⟩
    case round =>
      obtain ⟨k, hk, rfl, hn, hb⟩ := hrel
      by_cases hlt : k < xs.length
      · obtain ⟨b1, o1, rfl, hb1, hc1⟩ := hA k hlt
        obtain ⟨b2, o2, rfl, hb2, hc2⟩ := hB k (by have := HL.out; omega)
        have c1 := (hb.cell (p := ⟨b1, o1 + k, none⟩) hb1).trans (hc1 k hlt)
        have c2 := (hb.cell (p := ⟨b2, o2 + k, none⟩) hb2).trans (hc2 k (by have := HL.out; omega))
        have hlt2 : k < ys.length := by have := HL.out; omega
        clear hc1 hc2 hA hB
        by_cases he : gi xs k = gi ys k
        · have he1 : (gi xs k != gi ys k) = false := by simp [he]
          have HE := Lib.hid he
          clear he
          go_wp2
          go_quiet (fail)
          go_wp2
          go_roundw
          case rel => exact ⟨k + 1, by omega, by go_num, by show _ = _; rw [take_gi hlt, take_gi hlt2, hn.out, HE.out], below_drewN hb _⟩
          case measure => simp [intOf]; omega
        · have he1 : (gi xs k != gi ys k) = true := by simp [he]
          go_wp2
          go_quiet (fail)
          go_wp2
          go_ret
          exact ⟨ret_bool (by simp; intro h; exact he (by rw [h])), below_drewN hb _⟩
      · go_wp2
        go_ret
        exact ⟨ret_bool (by have h1 := hn.out; have h2 := HL.out; rw [List.take_of_length_le (by omega), List.take_of_length_le (by omega)] at h1; simp [h1]), hb⟩
  · have hl1 : (((xs.length : Int) != (ys.length : Int)) = true) := by simp; omega
    go_enter Tryd.func70, Tryd.ntmps70
    go_wp2
    go_ret
    exact ⟨ret_bool (by simp; intro h; exact hl (by rw [h])), Below.refl _ _⟩

/-- Bytes as numbers. -/
def nb (l : List UInt8) : List Int := l.map fun b => (b.toNat : Int)
theorem nb_length (l : List UInt8) : (nb l).length = l.length := by simp [nb]
theorem nb_take {s : ByteArray} {i : Nat} (h : i < s.size) : nb (s.data.toList.take (i + 1)) = nb (s.data.toList.take i) ++ [(((s[i]'h).toNat : Nat) : Int)] := by
  have h' : i < s.data.toList.length := h
  rw [List.take_succ_eq_append_getElem h']
  simp [nb]
  rfl
theorem nb_cmp : ∀ a b : List UInt8, Nm.cmpI (nb a) (nb b) = Lib.compareBytes a b
  | [], [] => rfl
  | [], _ :: _ => rfl
  | _ :: _, [] => rfl
  | x :: a, y :: b => by
    have ih := nb_cmp a b
    simp only [nb] at ih
    simp only [nb, List.map_cons, Nm.cmpI, Lib.compareBytes, ih]
    have h1 : ((x.toNat : Int) < (y.toNat : Int)) ↔ x < y := by rw [UInt8.lt_iff_toNat_lt]; omega
    have h2 : ((y.toNat : Int) < (x.toNat : Int)) ↔ y < x := by rw [UInt8.lt_iff_toNat_lt]; omega
    simp only [h1, h2]

set_option maxHeartbeats 2000000 in
theorem bytes_any (s : ByteArray) (w : World) (hs : s.size ≤ 1000000000000) :
    Calls Tryd.prog 69 #[.string s] w (ListPost (nb s.data.toList) w) := by
  go_enter Tryd.func69, Tryd.ntmps69
  go_wp2_with fail
  go_loopw [3, 4] (fun v iv wr => ∃ (i : Nat) (acc : List Int), iv = .int .i64 i ∧ i ≤ s.size ∧ OI wr w.heap.size v acc ∧ Hid (nb (s.data.toList.take i) = acc) ∧ acc.length ≤ i ∧ Below w.heap.size w wr) (fun _ iv _ => s.size - (intOf iv).toNat)
  case atStart => exact ⟨0, [], rfl, by omega, OI.fresh _ (Nat.le_refl _), rfl, by simp, (Below.refl _ _).alloc (Nat.le_refl _) _⟩
  case round =>
    obtain ⟨i, acc, rfl, hi, hown, hacc, hal, hbw⟩ := hrel
    have hsz := hbw.size
    by_cases hlt : i < s.size
    · have HS := Lib.hid (nb_take hlt)
      have hbd : (s[i]'hlt).toNat < 256 := (s[i]'hlt).toNat_lt
      have hbd2 : (((s[i]'hlt).toNat : Nat) : Int) < 256 := by omega
      go_wp2_with (at_builtin; refine append_int rfl _ _ rfl wr w.heap.size u3 acc (((s[i]'hlt).toNat : Nat) : Int) rfl hown rfl (by omega) hsz ?_; intro v' w3 hown3 hb3 hg3)
      go_roundw
      case rel => exact ⟨i + 1, acc ++ [(((s[i]'hlt).toNat : Nat) : Int)], by go_num, by omega, hown3, by show _ = _; rw [HS.out, hacc.out], by simp; omega, hbw.trans hb3⟩
      case measure => simp [intOf]; omega
    · have HF : Hid (nb s.data.toList = acc) := Lib.hid (by rw [← hacc.out, List.take_of_length_le (by show s.size ≤ i; omega)])
      go_wp2_with fail
      go_ret
      exact ⟨hbw, _, rfl, by rw [HF.out]; exact hown⟩
end Go.Proofs.YtlcjfphhogcenaaDoor
