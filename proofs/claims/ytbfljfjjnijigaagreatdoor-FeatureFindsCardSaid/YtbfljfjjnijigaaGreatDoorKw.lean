/-
  The small machine: the examples of the chapter, run once; the law's call in the model.
-/
import Derived.Test.YtbfljfjjnijigaaGreatDoorMd
import Derived.Test.YtbfljfjjnijigaaGreatDoorMb
import Derived.Test.YtbfljfjjnijigaaGreatDoorNamk
import Derived.Test.YtbfljfjjnijigaaGreatDoorMe
set_option linter.unusedVariables false
set_option linter.unusedSimpArgs false
namespace Go.Proofs.YtbfljfjjnijigaaGreatDoor
open Go Go.RowKit
set_option maxRecDepth 1000000

/-- name.Check, by its contract. -/
noncomputable def S0 : FuncId → List IV → Option IV := fun f args => bif Nat.beq f 35 then (match args with
  | [.str s] => bif Nat.ble s.size 1000000000000 then some (.int .i64 (Nm.check s.data.toList)) else none
  | _ => none) else none
/-- The plan of the chapter's example. -/
noncomputable def planX : IV := .agg [.slC [.int .i64 1, .int .i64 0, .int .i64 0] 1 3 true, .slC [.int .i64 1, .int .i64 1, .int .i64 1, .slC [.int .i64 10, .int .i64 0, .int .i64 10, .int .i64 10, .int .i64 0, .int .i64 10] 3 2 true, .int .i64 1, .int .i64 0] 1 6 true, .slC [.int .i64 1] 1 1 true]
noncomputable def S1 : FuncId → List IV → Option IV := ptS 41 [planX] (.int .i64 0) S0
noncomputable def S2 : FuncId → List IV → Option IV := ptS 29 [planX] (.int .i64 0) S1
noncomputable def S3 : FuncId → List IV → Option IV := ptS 5 [] (.bool true) S2
theorem run_pcheck : callN Ftab S0 400 0 (fun _ => []) [] [] 0 41 [planX] = some (.r, .int .i64 0, []) := by kernel_rfl
theorem run_gcheck : callN Ftab S1 400 0 (fun _ => []) [] [] 0 29 [planX] = some (.r, .int .i64 0, []) := by kernel_rfl
theorem run_awake : callN Ftab S2 400 0 (fun _ => []) [] [] 0 5 [] = some (.r, .bool true, []) := by kernel_rfl
theorem follows_mixed : Tryz.prog.follows .mixedOrders = true := by kernel_rfl
theorem sum0 {W0 : World} (ht : Gl.Tab W0) (hm : MaxOk W0) : SumOK Tryz.prog W0.heap.size W0 S0 := by
  intro f args v h
  unfold S0 at h
  cases hf : Nat.beq f 35
  · rw [hf] at h
    cases h
  · rw [hf, cond_true] at h
    obtain rfl := Nat.eq_of_beq_eq_true hf
    split at h
    · rename_i s
      cases hs : Nat.ble s.size 1000000000000
      · rw [hs] at h
        cases h
      · rw [hs, cond_true] at h
        cases h
        refine ⟨⟨Tryz.f35, Tryz.func35, by decide +kernel, by rfl⟩, fun β W args' hb hva => ?_⟩
        obtain ⟨y, rfl⟩ : ∃ y, args' = [y] := by
          cases args' with
          | nil => have := hva.1; simp at this
          | cons y t => cases t with
            | nil => exact ⟨y, rfl⟩
            | cons _ _ => have := hva.1; simp at this
        have hy := hva.2 0 _ _ rfl rfl
        obtain rfl := strI hy
        refine (ncheck_any s W (ht.below hb.below (Nat.le_refl _)) (hm.below hb.below (Nat.le_refl _)) (Nat.le_of_ble_eq_true hs)).mono ?_
        rintro e w' ⟨rfl, hbel⟩
        exact ⟨_, rfl, hbel, .int _ _⟩
    · cases h
theorem sum3 {W0 : World} (ht : Gl.Tab W0) (hm : MaxOk W0) : SumOK Tryz.prog W0.heap.size W0 S3 :=
  sum_pt follows_mixed tab_ok (sum_pt follows_mixed tab_ok (sum_pt follows_mixed tab_ok (sum0 ht hm) run_pcheck rfl rfl) run_gcheck rfl rfl) run_awake rfl rfl
theorem no_sum : NoS S3 := by
  intro f args h1 h2 h3 h4
  have hne : ∀ k, f ≠ k → Nat.beq f k = false := fun k hk => by
    cases hb : Nat.beq f k
    · rfl
    · exact absurd (Nat.eq_of_beq_eq_true hb) hk
  simp only [S3, S2, S1, S0, ptS, hne _ h1, hne _ h2, hne _ h3, hne _ h4, Bool.false_and, cond_false]
theorem aw_sum : S3 5 [] = some (.bool true) := by kernel_rfl
/-- FeatureFinds returns true. -/
theorem finds_call (W : World) (ht : Gl.Tab W) (hm : MaxOk W) (s : Sv) (id kind : Int) (v : Value) (hv : VR noPl W (.agg s.c) v) : Calls Tryz.prog 3 #[v, .int .i64 id, .int .i64 kind] W fun e W' => e = .returned (.bool true) ∧ Below W.heap.size W W' := by
  obtain ⟨N, hN⟩ := law_finds no_sum aw_sum s id kind
  have h := run_calls follows_mixed tab_ok (W := W) (sum3 ht hm) (hN N (Nat.le_refl _) 0 (fun _ => []) [] [] 0) (args' := [v, .int .i64 id, .int .i64 kind]) ((VRs.nil.cons (.int _ _)).cons (.int _ _) |>.cons hv)
  refine h.mono ?_
  rintro e W' ⟨y, β', rfl, hy, hb⟩
  obtain rfl := boolI hy
  exact ⟨rfl, hb⟩
end Go.Proofs.YtbfljfjjnijigaaGreatDoor
