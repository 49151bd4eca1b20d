/-
  Features of surveys without arcs: how they lie in memory, a predicate that no feature meets, the rules of feature.Check that keep no state.
-/
import Derived.Test.YtcbobceggjndlaaGreatDoorSvH
set_option linter.unusedVariables false
set_option linter.unusedSimpArgs false
namespace Go.Proofs.YtcbobceggjndlaaGreatDoor
open Go.RowKit Go.BigFrame

/-- The worlds that keep all that lay below B. -/
def Keeps (B : Nat) (w : World) : Type := {u : World // Below B w u}
instance (B : Nat) (w : World) : Nonempty (Keeps B w) := ⟨⟨w, Below.refl _ _⟩⟩
/-- A region that draws its order and whose callees may make memory: one walk, in the order of the text. -/
theorem region_keeps {P : Program} {id : Nat} {Q : Exit → Act → World → Prop} {a : Act} {w : World} {l : List Oper} (B : Nat) (hm : P.follows .mixedOrders = true) (hB : Region.lexB .any l.toArray = true)
    (h : wpQuiet P l.toArray (fun w' => ∃ x : Keeps B w, w' = x.1) (fun a' => ∀ w', (∃ x : Keeps B w, w' = x.1) → Q .normal a' w') l a) : (Code.region id l.toArray true).wp P Q a w :=
  wp_region_quiet (C := fun w' => ∃ x : Keeps B w, w' = x.1) hm hB ⟨⟨_, below_drewN (Below.refl B w) 1⟩, rfl⟩ (by simpa using h)
theorem Calls.keeps {P : Program} {f : FuncId} {args : Array Value} {w : World} {B : Nat} {x : Keeps B w} {v : Value} (hB : B ≤ w.heap.size)
    (h : Calls P f args x.1 fun e w' => e = .returned v ∧ Below x.1.heap.size x.1 w') : Calls P f args x.1 fun e w'' => e = .returned v ∧ ∃ y : Keeps B w, w'' = y.1 :=
  h.mono fun _ w' ⟨he, hb⟩ => ⟨he, ⟨w', x.2.trans (hb.mono (Nat.le_trans hB x.2.size))⟩, rfl⟩
theorem Calls.keeps_same {P : Program} {f : FuncId} {args : Array Value} {w : World} {B : Nat} {x : Keeps B w} {v : Value}
    (h : Calls P f args x.1 fun e w' => e = .returned v ∧ x.1 = w') : Calls P f args x.1 fun e w'' => e = .returned v ∧ ∃ y : Keeps B w, w'' = y.1 :=
  h.mono fun _ w' ⟨he, hb⟩ => ⟨he, x, hb.symm⟩
theorem Keeps.cell {B : Nat} {w : World} (x : Keeps B w) {p : Addr} {v : Option Value} (h : w.cell? p = v) (hp : p.block < B) : x.1.cell? p = v := (x.2.cell hp).trans h


/-- A feature as it lies in memory: its numbers, its name, its parts' slice and what that holds. -/
structure Ftr where
  id : Int
  kind : Int
  cls : Int
  name : ByteArray
  pA : Option Addr
  pn : Nat
  pc : Nat
  parts : List Int
def fv (f : Ftr) : Value := .agg #[.int .i64 f.id, .int .i64 f.kind, .int .i64 f.cls, .string f.name, .slice f.pA f.pn f.pc]
def ft (fs : List Ftr) (i : Nat) : Ftr := fs.getD i ⟨0, 0, 0, ⟨#[]⟩, none, 0, 0, []⟩
/-- The slice at A reads as the features fs. -/
def RF (w : World) (A : Option Addr) (fs : List Ftr) : Prop :=
  (∀ k, k < fs.length → ∃ b off, A = some ⟨b, off, none⟩ ∧ b < w.heap.size ∧ ∀ j, j < fs.length →
    w.cell? ⟨b, off + j * 5, none⟩ = some (.int .i64 (ft fs j).id) ∧ w.cell? ⟨b, off + j * 5 + 1, none⟩ = some (.int .i64 (ft fs j).kind) ∧ w.cell? ⟨b, off + j * 5 + 2, none⟩ = some (.int .i64 (ft fs j).cls) ∧
    w.cell? ⟨b, off + j * 5 + 3, none⟩ = some (.string (ft fs j).name) ∧ w.cell? ⟨b, off + j * 5 + 4, none⟩ = some (.slice (ft fs j).pA (ft fs j).pn (ft fs j).pc)) ∧
  ∀ j, j < fs.length → RI w (ft fs j).pA (ft fs j).parts ∧ (ft fs j).parts.length = (ft fs j).pn
theorem RF.below {w w' : World} {A : Option Addr} {fs : List Ftr} (h : RF w A fs) (hb : Below w.heap.size w w') : RF w' A fs :=
  ⟨fun k hk => by
    obtain ⟨b, off, e, hl, hc⟩ := h.1 k hk
    refine ⟨b, off, e, Nat.lt_of_lt_of_le hl hb.size, fun j hj => ?_⟩
    obtain ⟨c1, c2, c3, c4, c5⟩ := hc j hj
    exact ⟨(hb.cell (p := ⟨b, off + j * 5, none⟩) hl).trans c1, (hb.cell (p := ⟨b, off + j * 5 + 1, none⟩) hl).trans c2, (hb.cell (p := ⟨b, off + j * 5 + 2, none⟩) hl).trans c3, (hb.cell (p := ⟨b, off + j * 5 + 3, none⟩) hl).trans c4, (hb.cell (p := ⟨b, off + j * 5 + 4, none⟩) hl).trans c5⟩,
  fun j hj => ⟨(h.2 j hj).1.below hb, (h.2 j hj).2⟩⟩

set_option maxHeartbeats 2000000 in
theorem indexF_none (g : Nat) (lb : Array Value) (eg : ∀ args w, (callFunc g args).run Tryz.prog w = .ok (.enter g args) w) (A : Option Addr) (c n : Nat) (fs : List Ftr) (w : World) (hn : fs.length = n) (hx : n ≤ 1000000) (Inv : Nat → World → Prop) (hI : Inv 0 w)
    (hread : ∀ k W, Inv k W → RF W A fs)
    (hstep : ∀ k W, k < n → Inv k W → Calls Tryz.prog g (#[fv (ft fs k)] ++ lb) W fun e W' => e = .returned (.bool false) ∧ Inv (k + 1) W') :
    Calls Tryz.prog 86 #[.slice A n c, .func (.func g) #[] lb] w fun e w' => e = .returned (.int .i64 (-1)) ∧ Inv n w' := by
  have HS := Lib.hid hstep
  have HR := Lib.hid hread
  clear hstep hread
  go_enter Tryz.func86, Tryz.ntmps86
  go_wp2_with fail
  go_loopw [5, 8] (fun _ iv wr => ∃ i : Nat, iv = .int .i64 i ∧ i ≤ n ∧ Inv i wr) (fun _ iv _ => n - (intOf iv).toNat)
  case atStart => exact ⟨0, rfl, by omega, hI⟩
  case round =>
    obtain ⟨i, rfl, hi, hJ⟩ := hrel
    by_cases hlt : i < n
    · obtain ⟨b1, o1, rfl, hbb1, hc1⟩ := (HR.out i wr hJ).1 i (by omega)
      obtain ⟨c1, c2, c3, c4, c5⟩ := hc1 i (by omega)
      clear hc1
      go_wp2_with fail
      refine (HS.out i _ hlt hJ).mono ?_
      first | rintro e w1 rfl hJ1 | rintro e w1 ⟨rfl, hJ1⟩
      go_wp2_with fail
      go_roundw
      case rel => exact ⟨i + 1, by go_num, by omega, hJ1⟩
      case measure => simp [intOf]; omega
    · obtain rfl : i = n := by omega
      go_wp2_with fail
      go_ret
      exact ⟨rfl, hJ⟩
theorem containsF_none (g : Nat) (lb : Array Value) (eg : ∀ args w, (callFunc g args).run Tryz.prog w = .ok (.enter g args) w) (A : Option Addr) (c n : Nat) (fs : List Ftr) (w : World) (hn : fs.length = n) (hx : n ≤ 1000000) (Inv : Nat → World → Prop) (hI : Inv 0 w)
    (hread : ∀ k W, Inv k W → RF W A fs)
    (hstep : ∀ k W, k < n → Inv k W → Calls Tryz.prog g (#[fv (ft fs k)] ++ lb) W fun e W' => e = .returned (.bool false) ∧ Inv (k + 1) W') :
    Calls Tryz.prog 52 #[.slice A n c, .func (.func g) #[] lb] w fun e w' => e = .returned (.bool false) ∧ Inv n w' := by
  have HC := Lib.hid (indexF_none g lb eg A c n fs w hn hx Inv hI hread hstep)
  clear hstep hread eg
  go_enter Tryz.func52, Tryz.ntmps52
  go_wp2_with fail
  refine HC.out.mono ?_
  first | rintro e w1 rfl hJ1 | rintro e w1 ⟨rfl, hJ1⟩
  go_wp2_with fail
  go_ret
  exact ⟨rfl, hJ1⟩

theorem rule1_ok (f : Ftr) (w : World) (h : f.pn ≤ 64) : Calls Tryz.prog 42 #[fv f] w fun e w' => e = .returned (.bool false) ∧ Below w.heap.size w w' := by
  unfold fv
  go_enter Tryz.func42, Tryz.ntmps42
  go_wp2_with fail
  go_ret
  refine ⟨ret_bool (by simp; omega), ?_⟩
  go_grown
theorem rule2_ok (f : Ftr) (w : World) (h1 : 1 ≤ f.id) (h2 : f.id ≤ 1073741824) (h3 : 1 ≤ f.cls) (h4 : f.cls ≤ 9) : Calls Tryz.prog 44 #[fv f] w fun e w' => e = .returned (.bool false) ∧ Below w.heap.size w w' := by
  unfold fv
  go_enter Tryz.func44, Tryz.ntmps44
  go_wp2_with fail
  go_ret
  refine ⟨ret_bool (by simp; omega), ?_⟩
  go_grown
theorem rule3_ok (f : Ftr) (w : World) (h : f.kind = 1 ∨ f.kind = 2 ∨ f.kind = 8) : Calls Tryz.prog 45 #[fv f] w fun e w' => e = .returned (.bool false) ∧ Below w.heap.size w w' := by
  unfold fv
  go_enter Tryz.func45, Tryz.ntmps45
  go_wp2_with fail
  refine (shape_point _ _ h).mono ?_
  first | rintro e w1 rfl rfl | rintro e w1 ⟨rfl, rfl⟩
  go_wp2_with fail
  go_ret
  refine ⟨rfl, ?_⟩
  go_grown
theorem rule4_ok (f : Ftr) (w : World) (h : f.name = ⟨#[]⟩) : Calls Tryz.prog 47 #[fv f] w fun e w' => e = .returned (.bool false) ∧ Below w.heap.size w w' := by
  unfold fv
  rw [h]
  go_enter Tryz.func47, Tryz.ntmps47
  go_wp2_with fail
  go_ret
  refine ⟨rfl, ?_⟩
  go_grown
theorem rule5_ok (f : Ftr) (w : World) (hk : f.kind = 1 ∨ f.kind = 2 ∨ f.kind = 8) (h : f.pn = 1) : Calls Tryz.prog 48 #[fv f] w fun e w' => e = .returned (.bool false) ∧ Below w.heap.size w w' := by
  unfold fv
  rw [h]
  go_enter Tryz.func48, Tryz.ntmps48
  go_wp2_with fail
  refine (shape_point _ _ hk).mono ?_
  first | rintro e w1 rfl rfl | rintro e w1 ⟨rfl, rfl⟩
  go_wp2_with fail
  go_ret
  refine ⟨rfl, ?_⟩
  go_grown
end Go.Proofs.YtcbobceggjndlaaGreatDoor
