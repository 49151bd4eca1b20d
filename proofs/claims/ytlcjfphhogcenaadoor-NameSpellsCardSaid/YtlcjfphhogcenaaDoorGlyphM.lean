/-
  Walks of layer 6: base, direction, turned and Order of the reference.
-/
import Derived.Test.YtlcjfphhogcenaaDoorGlyphL
set_option linter.unusedVariables false
set_option linter.unusedSimpArgs false
namespace Go.Proofs.YtlcjfphhogcenaaDoor
open Go.RowKit

/-- A direction as the reference has it. -/
def sgn (b : Bool) : Int := if b then -1 else 1
theorem strong_st {r : Int} (h : Gl.st r = true) : Gl.strong r = sgn (Gl.hb r) := by
  unfold Gl.st at h
  unfold Gl.strong sgn Gl.hb
  rw [if_neg (by simpa using h)]
  by_cases h4 : Gl.script r = 4 <;> simp [h4]
theorem strong_no {r : Int} (h : Gl.st r = false) : Gl.strong r = 0 := by
  unfold Gl.st at h
  unfold Gl.strong
  rw [if_pos (by simpa using h)]
theorem strong_ne {r : Int} : (Gl.strong r != 0) = Gl.st r := by
  cases h : Gl.st r
  · rw [strong_no h]; rfl
  · rw [strong_st h]; unfold sgn; split <;> rfl
theorem sgn_bd (b : Bool) : -1 ≤ sgn b ∧ sgn b ≤ 1 := by cases b <;> simp [sgn]
theorem sgn_eq (a b : Bool) : (sgn a == sgn b) = (a == b) := by cases a <;> cases b <;> rfl
theorem sgn_lt (b : Bool) : decide (sgn b < 0) = b := by cases b <;> rfl

set_option maxHeartbeats 1000000 in
theorem rbase_any (A : Option Addr) (c : Nat) (xs : List Int) (w : World) (hA : RI w A xs) (hx : xs.length ≤ 10000000000000) :
    Calls Tryd.prog 61 #[.slice A xs.length c] w fun e w' => e = .returned (.int .i64 (sgn (Gl.base xs))) ∧ w = w' := by
  go_enter Tryd.func61, Tryd.ntmps61
  go_wp2_with fail
  go_loopw [3] (fun i wr => ∃ k : Nat, k ≤ xs.length ∧ i = .int .i64 k ∧ Hid (∀ j, j < k → Gl.st (gi xs j) = false) ∧ w = wr) (fun i _ => xs.length - (intOf i).toNat)
  case atStart => exact ⟨0, by omega, rfl, fun j hj => absurd hj (by omega), rfl⟩
  case round =>
    obtain ⟨k, hk, rfl, hn, rfl⟩ := hrel
    by_cases hlt : k < xs.length
    · obtain ⟨b1, o1, rfl, hb1, hc1⟩ := hA k hlt
      have c1 := hc1 k hlt
      clear hc1 hA
      have hne := strong_ne (r := gi xs k)
      cases hs : Gl.st (gi xs k)
      · rw [hs] at hne
        go_wp2_with (go_at_call 79; refine (rstrong_any _ _).mono ?_; rintro e w1 ⟨rfl, rfl⟩)
        go_roundw
        case rel => exact ⟨k + 1, by omega, by go_num, fun j hj => (Nat.lt_or_eq_of_le (Nat.le_of_lt_succ hj)).elim (hn.out j) (fun e => by rw [e]; exact hs), trivial⟩
        case measure => simp [intOf]; omega
      · rw [hs] at hne
        have HB := Lib.hid ((strong_st hs).trans (congrArg sgn (base_some hlt hs hn.out).symm))
        go_wp2_with (go_at_call 79; refine (rstrong_any _ _).mono ?_; rintro e w1 ⟨rfl, rfl⟩)
        go_ret
        exact ⟨ret_int HB.out, rfl⟩
    · obtain rfl : k = xs.length := by omega
      have HB := Lib.hid (base_none hn.out)
      go_wp2_with fail
      go_ret
      exact ⟨ret_int (by rw [HB.out]; rfl), rfl⟩

theorem scan_weak (b : Bool) {xs : List Int} {k : Nat} (h : k < xs.length) (hs : Gl.st (gi xs k) = false) : Gl.scan b (xs.take (k + 1)) = Gl.scan b (xs.take k) := by rw [Gl.scan_take b h, hs]; rfl
theorem scan_strong (b : Bool) {xs : List Int} {k : Nat} (h : k < xs.length) (hs : Gl.st (gi xs k) = true) : Gl.scan b (xs.take (k + 1)) = Gl.hb (gi xs k) := by rw [Gl.scan_take b h, hs]; rfl
theorem back_weak (b : Bool) {xs : List Int} {k : Nat} (h : k < xs.length) (hs : Gl.st (gi xs k) = false) : Gl.scan b (xs.drop k).reverse = Gl.scan b (xs.drop (k + 1)).reverse := by rw [Gl.scan_back b h, hs]; rfl
theorem back_strong (b : Bool) {xs : List Int} {k : Nat} (h : k < xs.length) (hs : Gl.st (gi xs k) = true) : Gl.scan b (xs.drop k).reverse = Gl.hb (gi xs k) := by rw [Gl.scan_back b h, hs]; rfl
theorem left_strong {xs : List Int} {i : Nat} (h : i < xs.length) (hs : Gl.st (gi xs i) = true) : Gl.left xs i = Gl.hb (gi xs i) := by
  unfold Gl.left
  rw [scan_strong _ h hs, back_strong _ h hs, if_pos rfl]
theorem left_weak {xs : List Int} {i : Nat} (h : i < xs.length) (hs : Gl.st (gi xs i) = false) : Gl.left xs i = if Gl.scan (Gl.base xs) (xs.take i) = Gl.scan (Gl.base xs) (xs.drop (i + 1)).reverse then Gl.scan (Gl.base xs) (xs.take i) else Gl.base xs := by
  unfold Gl.left
  rw [scan_weak _ h hs, back_weak _ h hs]

set_option maxHeartbeats 4000000 in
theorem rdirection_any (A : Option Addr) (c i : Nat) (xs : List Int) (w : World) (hA : RI w A xs) (hx : xs.length ≤ 10000000000000) (hi : i < xs.length) :
    Calls Tryd.prog 59 #[.slice A xs.length c, .int .i64 i] w fun e w' => e = .returned (.int .i64 (sgn (Gl.left xs i))) ∧ w = w' := by
  have hbase := fun W (h : RI W A xs) => rbase_any A c xs W h hx
  obtain ⟨b1, o1, rfl, hb1, hc1⟩ := hA i hi
  have HC := Lib.hid hc1
  have c1 := hc1 i hi
  have HB := Lib.hid (hbase w hA)
  clear hbase hc1 hA
  have hne := strong_ne (r := gi xs i)
  cases hs : Gl.st (gi xs i)
  · rw [hs] at hne
    go_enter Tryd.func59, Tryd.ntmps59
    go_wp2_with (first | (go_at_call 79; refine (rstrong_any _ _).mono ?_; rintro e w1 ⟨rfl, rfl⟩) | (go_at_call 61; refine HB.out.mono ?_; rintro e w1 ⟨rfl, rfl⟩))
    go_loopw [5, 6] (fun bf kv wr => ∃ k : Nat, k ≤ i ∧ kv = .int .i64 k ∧ bf = .int .i64 (sgn (Gl.scan (Gl.base xs) (xs.take k))) ∧ w = wr) (fun _ kv _ => i - (intOf kv).toNat)
    case atStart => exact ⟨0, by omega, rfl, by simp [Gl.scan_nil], rfl⟩
    case round =>
      obtain ⟨k, hk, rfl, rfl, rfl⟩ := hrel
      by_cases hlt : k < i
      · have c2 := HC.out k (by omega)
        have hne2 := strong_ne (r := gi xs k)
        cases hs2 : Gl.st (gi xs k)
        · rw [hs2] at hne2
          have HW := Lib.hid (scan_weak (Gl.base xs) (k := k) (xs := xs) (by omega) hs2)
          go_wp2_with (go_at_call 79; refine (rstrong_any _ _).mono ?_; rintro e w1 ⟨rfl, rfl⟩)
          go_roundw
          case rel => exact ⟨k + 1, by omega, by go_num, by rw [HW.out], trivial⟩
          case measure => simp [intOf]; omega
        · rw [hs2] at hne2
          have HW := Lib.hid (scan_strong (Gl.base xs) (k := k) (xs := xs) (by omega) hs2)
          have HS := Lib.hid (strong_st hs2)
          go_wp2_with (go_at_call 79; refine (rstrong_any _ _).mono ?_; rintro e w1 ⟨rfl, rfl⟩)
          go_roundw
          case rel => exact ⟨k + 1, by omega, by go_num, by rw [HW.out, HS.out], trivial⟩
          case measure => simp [intOf]; omega
      · obtain rfl : k = i := by omega
        go_wp2_with (go_at_call 61; refine HB.out.mono ?_; rintro e w1 ⟨rfl, rfl⟩)
        go_loopw [7, 8] (fun bf kv wr => ∃ q : Nat, k + 1 ≤ q ∧ q ≤ xs.length ∧ kv = .int .i64 ((q : Int) - 1) ∧ bf = .int .i64 (sgn (Gl.scan (Gl.base xs) (xs.drop q).reverse)) ∧ w = wr) (fun _ kv _ => (intOf kv).toNat)
        case atStart => exact ⟨xs.length, by omega, by omega, rfl, by simp [Gl.scan_nil], rfl⟩
        case round =>
          obtain ⟨q, hq1, hq2, rfl, rfl, rfl⟩ := hrel
          by_cases hgt : k + 1 < q
          · obtain ⟨p, rfl⟩ : ∃ p, q = p + 1 := ⟨q - 1, by omega⟩
            have ep : ((p + 1 : Nat) : Int) - 1 = (p : Int) := by omega
            rw [ep]
            clear ep
            have c2 := HC.out p (by omega)
            have hne2 := strong_ne (r := gi xs p)
            cases hs2 : Gl.st (gi xs p)
            · rw [hs2] at hne2
              have HW := Lib.hid (back_weak (Gl.base xs) (k := p) (xs := xs) (by omega) hs2)
              go_wp2_with (go_at_call 79; refine (rstrong_any _ _).mono ?_; rintro e w1 ⟨rfl, rfl⟩)
              go_roundw
              case rel => exact ⟨p, by omega, by omega, rfl, by rw [HW.out], trivial⟩
              case measure => simp [intOf]; omega
            · rw [hs2] at hne2
              have HW := Lib.hid (back_strong (Gl.base xs) (k := p) (xs := xs) (by omega) hs2)
              have HS := Lib.hid (strong_st hs2)
              go_wp2_with (go_at_call 79; refine (rstrong_any _ _).mono ?_; rintro e w1 ⟨rfl, rfl⟩)
              go_roundw
              case rel => exact ⟨p, by omega, by omega, rfl, by rw [HW.out, HS.out], trivial⟩
              case measure => simp [intOf]; omega
          · obtain rfl : q = k + 1 := by omega
            have HL := Lib.hid (left_weak hi hs)
            have hse := sgn_eq (Gl.scan (Gl.base xs) (xs.take k)) (Gl.scan (Gl.base xs) (xs.drop (k + 1)).reverse)
            have ep : ((k + 1 : Nat) : Int) - 1 = (k : Int) := by omega
            rw [ep]
            clear ep
            by_cases he : Gl.scan (Gl.base xs) (xs.take k) = Gl.scan (Gl.base xs) (xs.drop (k + 1)).reverse
            · have he1 : (sgn (Gl.scan (Gl.base xs) (xs.take k)) == sgn (Gl.scan (Gl.base xs) (xs.drop (k + 1)).reverse)) = true := by rw [hse]; simp [he]
              have HE := Lib.hid he
              clear he hse
              go_wp2_with fail
              go_ret
              exact ⟨ret_int (by rw [HL.out, if_pos HE.out]), rfl⟩
            · have he1 : (sgn (Gl.scan (Gl.base xs) (xs.take k)) == sgn (Gl.scan (Gl.base xs) (xs.drop (k + 1)).reverse)) = false := by rw [hse]; simp [he]
              have HE := Lib.hid he
              clear he hse
              go_wp2_with (go_at_call 61; refine HB.out.mono ?_; rintro e w1 ⟨rfl, rfl⟩)
              go_ret
              exact ⟨ret_int (by rw [HL.out, if_neg HE.out]), rfl⟩
  · rw [hs] at hne
    have HL := Lib.hid ((strong_st hs).trans (congrArg sgn (left_strong hi hs).symm))
    go_enter Tryd.func59, Tryd.ntmps59
    go_wp2_with (go_at_call 79; refine (rstrong_any _ _).mono ?_; rintro e w1 ⟨rfl, rfl⟩)
    go_ret
    exact ⟨ret_int HL.out, rfl⟩
end Go.Proofs.YtlcjfphhogcenaaDoor
