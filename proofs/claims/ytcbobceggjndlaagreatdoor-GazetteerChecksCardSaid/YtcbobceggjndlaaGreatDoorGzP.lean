/-
  GazetteerChecks.
-/
import Derived.Test.YtcbobceggjndlaaGreatDoorGzO
set_option linter.unusedVariables false
set_option linter.unusedSimpArgs false
namespace Go.Proofs.YtcbobceggjndlaaGreatDoor
open Go.RowKit

theorem light_short {es : List Ent} (h : Gz.light es) : Gz.Short es := fun j hj => ⟨by have := (h.2 j hj).1; omega, by have := (h.2 j hj).2; omega⟩
set_option maxHeartbeats 4000000 in
theorem law_gchecks (A : Option Addr) (c n : Nat) (es : List Ent) (w : World) (hn : es.length = n) (hx : n * 48 ≤ 140737488355328) (hA : RE w A es) (hnil : A = none → n = 0 ∧ c = 0) (ht : Gl.Tab w) (hm : MaxOk w) :
    Calls Tryz.prog 3 #[.slice A n c] w fun e w' => e = .returned (.bool true) ∧ Below w.heap.size w w' := by
  have HK : Hid (Kn w.heap.size w) := Lib.hid ⟨ht, hm, ht.lt, hm.lt⟩
  have HA := Lib.hid hA
  have HN := Lib.hid hnil
  clear ht hm hA hnil
  go_enter Tryz.func3, Tryz.ntmps3
  by_cases hl : Gz.light es
  · have hz : n ≤ 30 := by rw [← hn]; exact hl.1
    have HL := Lib.hid (show decide (Gz.light es) = true from decide_eq_true hl)
    have HS := Lib.hid (light_short hl)
    clear hl
    have hlt : Calls Tryz.prog 4 #[.slice A n c, .slice none 0 0] w fun e w' => e = .returned (.bool true) ∧ Below w.heap.size w w' := by
      have h := light_any A c n es w hn hx HA.out HN.out
      rwa [HL.out] at h
    have HLT := Lib.hid hlt
    clear hlt
    go_wp2_with (go_at_call 4; refine HLT.out.mono ?_)
    first | rintro e w1 rfl hb1 | rintro e w1 ⟨rfl, hb1⟩
    go_wp2_with (go_at_call 5; refine (awake52_any _ ((HK.out.below hb1).mono hb1.size)).mono ?_)
    first | rintro e w2 rfl hb2 | rintro e w2 ⟨rfl, hb2⟩
    have b2 := hb1.trans (hb2.mono hb1.size)
    go_wp2_with (go_at_call 6; refine (zcheck_any A c n es _ hn (by omega) (HA.out.below b2) HS.out (HK.out.below b2).tab (HK.out.below b2).max).mono ?_)
    first | rintro e w3 rfl hb3 | rintro e w3 ⟨rfl, hb3⟩
    have b3 := b2.trans (hb3.mono b2.size)
    go_wp2_with (go_at_call 7; refine (r52check_any A c n es _ hn (by omega) (HA.out.below b3) HS.out).mono ?_)
    first | rintro e w4 rfl hb4 | rintro e w4 ⟨rfl, hb4⟩
    have b4 := b3.trans (hb4.mono b3.size)
    go_wp2_with fail
    go_ret
    exact ⟨rfl, b4⟩
  · have HL := Lib.hid (show decide (Gz.light es) = false from decide_eq_false hl)
    clear hl
    have hlt : Calls Tryz.prog 4 #[.slice A n c, .slice none 0 0] w fun e w' => e = .returned (.bool false) ∧ Below w.heap.size w w' := by
      have h := light_any A c n es w hn hx HA.out HN.out
      rwa [HL.out] at h
    have HLT := Lib.hid hlt
    clear hlt
    go_wp2_with (go_at_call 4; refine HLT.out.mono ?_)
    first | rintro e w1 rfl hb1 | rintro e w1 ⟨rfl, hb1⟩
    go_wp2_with (go_at_call 5; refine (awake52_any _ ((HK.out.below hb1).mono hb1.size)).mono ?_)
    first | rintro e w2 rfl hb2 | rintro e w2 ⟨rfl, hb2⟩
    have b2 := hb1.trans (hb2.mono hb1.size)
    go_wp2_with fail
    go_ret
    exact ⟨rfl, b2⟩
end Go.Proofs.YtcbobceggjndlaaGreatDoor
