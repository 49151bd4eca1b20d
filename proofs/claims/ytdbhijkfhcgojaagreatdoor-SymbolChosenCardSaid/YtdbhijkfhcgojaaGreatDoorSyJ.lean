/-
  Symbols: Taken at a valid survey without arcs.
-/
import Derived.Test.YtdbhijkfhcgojaaGreatDoorSyI
set_option linter.unusedVariables false
set_option linter.unusedSimpArgs false
namespace Go.Proofs.YtdbhijkfhcgojaaGreatDoor
open Go.RowKit

/-- The node with an identifier. -/
def Sy.node (ns : List Nd) (p : Int) : Nd := (ns.find? fun m => m.id == p).getD ⟨0, 0, 0⟩
theorem Sy.node_hit {ns : List Nd} {p : Int} {k : Nat} (hk : k < ns.length) (h : (nd ns k).id = p) (hno : ∀ j, j < k → (nd ns j).id ≠ p) : Sy.node ns p = nd ns k := by
  unfold Sy.node
  have : ns.find? (fun m => m.id == p) = some (nd ns k) := by
    rw [List.find?_eq_some_iff_getElem]
    refine ⟨by simp [h], k, hk, (nd_eq hk).symm, fun j hj => ?_⟩
    have := hno j hj
    rw [nd_eq (by omega)] at this
    simpa using this
  rw [this]; rfl
/-- Is a point in a box? -/
def Sy.inb (b : Int × Int × Int × Int) (x y : Int) : Prop := b.1 ≤ x ∧ x ≤ b.2.2.1 ∧ b.2.1 ≤ y ∧ y ≤ b.2.2.2
instance (b : Int × Int × Int × Int) (x y : Int) : Decidable (Sy.inb b x y) := by unfold Sy.inb; infer_instance
/-- The place of the symbol of a point feature, if it takes any. -/
def Sy.take1 (ns : List Nd) (ss : List Sym) (b : Int × Int × Int × Int) (f : Ftr) : List (Int × Int × Int × Int) :=
  if Sy.inb b (Sy.node ns (gi f.parts 0)).x (Sy.node ns (gi f.parts 0)).y then
    match Sy.find ss f.kind f.cls with
    | some s => if 0 < s.w ∧ 0 < s.h then [Sy.box s (Sy.node ns (gi f.parts 0)).x (Sy.node ns (gi f.parts 0)).y] else []
    | none => []
  else []
def Sy.taken (ns : List Nd) (fs : List Ftr) (ss : List Sym) (b : Int × Int × Int × Int) : List (Int × Int × Int × Int) := fs.flatMap (Sy.take1 ns ss b)
theorem Sy.take1_len (ns : List Nd) (ss : List Sym) (b : Int × Int × Int × Int) (f : Ftr) : (Sy.take1 ns ss b f).length ≤ 1 := by
  unfold Sy.take1
  split
  · split
    · split <;> simp
    · simp
  · simp
theorem Sy.taken_len (ns : List Nd) (fs : List Ftr) (ss : List Sym) (b : Int × Int × Int × Int) : (Sy.taken ns fs ss b).length ≤ fs.length := by
  unfold Sy.taken
  induction fs with
  | nil => simp
  | cons f r ih => have := Sy.take1_len ns ss b f; simp at *; omega
theorem ft_take (fs : List Ftr) (i : Nat) (h : i < fs.length) : fs.take (i + 1) = fs.take i ++ [ft fs i] := by
  rw [List.take_succ_eq_append_getElem h]
  simp [ft, h]
theorem Sy.taken_succ (ns : List Nd) (fs : List Ftr) (ss : List Sym) (b : Int × Int × Int × Int) (i : Nat) (h : i < fs.length) : Sy.taken ns (fs.take (i + 1)) ss b = Sy.taken ns (fs.take i) ss b ++ Sy.take1 ns ss b (ft fs i) := by
  rw [ft_take fs i h]; simp [Sy.taken]
theorem ycheck_at (A : Option Addr) (c n : Nat) (ss : List Sym) (r : Int) (w : World) (hr : Sy.check ss = r) (hn : ss.length = n) (hx : n ≤ 1000000000000) (hA : RSy w A ss) :
    Calls Tryz.prog 9 #[.slice A n c] w fun e w' => e = .returned (.int .i64 r) ∧ Below w.heap.size w w' := by
  subst hr; exact ycheck_any A c n ss w hn hx hA
theorem in_at (b : Int × Int × Int × Int) (x y : Int) (r : Bool) (w : World) (hr : decide (Sy.inb b x y) = r) : Calls Tryz.prog 13 #[.agg #[.int .i64 b.1, .int .i64 b.2.1, .int .i64 b.2.2.1, .int .i64 b.2.2.2], .agg #[.int .i64 x, .int .i64 y]] w fun e w' => e = .returned (.bool r) ∧ Below w.heap.size w w' := by
  subst hr; exact in_any b x y w
def symA (s : Sym) : Array Value := #[.int .i64 s.kind, .int .i64 s.cls, .int .i64 s.w, .int .i64 s.h, .int .i64 s.l, .int .i64 s.i0, .int .i64 s.i1, .int .i64 s.i2, .int .i64 s.i3]
theorem yfind_at (A : Option Addr) (c n : Nat) (ss : List Sym) (k cl : Int) (s : Sym) (r : Bool) (w : World) (hr : ((Sy.find ss k cl).getD Sym.zero, (Sy.find ss k cl).isSome) = (s, r)) (hn : ss.length = n) (hx : n ≤ 1000000000000) (hA : RSy w A ss) :
    Calls Tryz.prog 7 #[.slice A n c, .int .i64 k, .int .i64 cl] w fun e w' => e = .returned (.tuple #[.agg #[.int .i64 s.kind, .int .i64 s.cls, .int .i64 s.w, .int .i64 s.h, .int .i64 s.l, .int .i64 s.i0, .int .i64 s.i1, .int .i64 s.i2, .int .i64 s.i3], .bool r]) ∧ Below w.heap.size w w' := by
  injection hr with h1 h2
  subst h1
  subst h2
  exact yfind_any A c n ss k cl w hn hx hA
theorem ybox_at (s : Sym) (x y : Int) (w : World) : Calls Tryz.prog 11 #[.agg #[.int .i64 s.kind, .int .i64 s.cls, .int .i64 s.w, .int .i64 s.h, .int .i64 s.l, .int .i64 s.i0, .int .i64 s.i1, .int .i64 s.i2, .int .i64 s.i3], .agg #[.int .i64 x, .int .i64 y]] w fun e w' => e = .returned (boxV (Sy.box s x y)) ∧ Below w.heap.size w w' := ybox_any s x y w
/-- What Taken hands back. -/
def TakenPost (bs : List (Int × Int × Int × Int)) (w : World) (e : Ending) (w' : World) : Prop :=
  ∃ v, e = .returned (.tuple #[v, .int .i64 0]) ∧ OBx w' w.heap.size v bs ∧ Below w.heap.size w w'
/-- A node has been looked up: its cells lie in a block of their own. -/
def NodeIn (p : Nat) (m : Nd) (W : World) : Prop := p < W.heap.size ∧ W.cell? ⟨p, 1, none⟩ = some (.int .i64 m.x) ∧ W.cell? ⟨p, 2, none⟩ = some (.int .i64 m.y)
theorem NodeIn.below {p : Nat} {m : Nd} {W W' : World} (h : NodeIn p m W) (hb : Below W.heap.size W W') : NodeIn p m W' :=
  ⟨Nat.lt_of_lt_of_le h.1 hb.size, (hb.cell (p := ⟨p, 1, none⟩) h.1).trans h.2.1, (hb.cell (p := ⟨p, 2, none⟩) h.1).trans h.2.2⟩

set_option maxHeartbeats 16000000 in
theorem taken_ok (ns : List Nd) (fs : List Ftr) (ss : List Sym) (b : Int × Int × Int × Int) (A AF AS : Option Addr) (n c nF cF nS cS : Nat) (w : World) (hn : ns.length = n) (hc : n ≤ c) (hA : RN w A ns) (hg : Good ns) (hnF : fs.length = nF) (hr : RF w AF fs) (hf : GoodF ns fs)
    (hnS : ss.length = nS) (hS : RSy w AS ss) (hck : Sy.check ss = 0) :
    Calls Tryz.prog 14 #[.agg #[.slice A n c, .slice none 0 0, .slice none 0 0, .slice AF nF cF], .slice AS nS cS, boxV b] w (TakenPost (Sy.taken ns fs ss b) w) := by
  have hx : nF ≤ 128 := by rw [← hnF]; exact hf.few
  have hx2 : n ≤ 256 := by rw [← hn]; exact hg.few
  have hx3 : nS ≤ 72 := by
    unfold Sy.check at hck
    split at hck
    · cases hck
    · omega
  have HG := Lib.hid hg
  have HF := Lib.hid hf
  have HCK := Lib.hid hck
  clear hg hf hck
  unfold boxV
  go_enter Tryz.func14, Tryz.ntmps14
  go_wp2_with fail
  obtain ⟨W1, hW⟩ : ∃ X, (w.alloc (.cells #[.slice A n c, .slice none 0 0, .slice none 0 0, .slice AF nF cF] 50)).alloc (.cells #[.int .i64 b.1, .int .i64 b.2.1, .int .i64 b.2.2.1, .int .i64 b.2.2.2] 35) = X := ⟨_, rfl⟩
  have hb1 : Below w.heap.size w W1 := by rw [← hW]; exact ((Below.refl _ _).alloc (Nat.le_refl _) _).alloc (by simp) _
  have S1 : SB W1 w.heap.size A n c AF nF cF := by rw [← hW]; exact Bk.alloc (Bk.new _ _ _) _
  have k1 : Bk W1 (w.heap.size + 1) 35 #[.int .i64 b.1, .int .i64 b.2.1, .int .i64 b.2.2.1, .int .i64 b.2.2.2] := by
    rw [← hW]
    have := Bk.new (w.alloc (.cells #[.slice A n c, .slice none 0 0, .slice none 0 0, .slice AF nF cF] 50)) #[.int .i64 b.1, .int .i64 b.2.1, .int .i64 b.2.2.1, .int .i64 b.2.2.2] 35
    rw [show (w.alloc (.cells #[.slice A n c, .slice none 0 0, .slice none 0 0, .slice AF nF cF] 50)).heap.size = w.heap.size + 1 by simp] at this
    exact this
  rw [hW]
  clear hW
  refine (fcheck_ok ns fs A AF n c nF cF _ hn hc (hA.below hb1) HG.out hnF (hr.below hb1) HF.out).mono ?_
  first | rintro e w1 rfl hb2 | rintro e w1 ⟨rfl, hb2⟩
  have S2 := SB.below S1 hb2 (Bk.lt S1)
  have k2 := k1.below hb2 k1.lt
  have b2 : Below w.heap.size w w1 := hb1.trans (hb2.mono hb1.size)
  clear hb1 S1 k1 hb2
  go_wp2_with fail
  refine (ycheck_at AS cS nS ss 0 _ HCK.out hnS (by omega) (hS.below b2)).mono ?_
  first | rintro e w2 rfl hb3 | rintro e w2 ⟨rfl, hb3⟩
  have S3 := SB.below S2 hb3 (Bk.lt S2)
  have k3 := k2.below hb3 k2.lt
  have b3 : Below w.heap.size w w2 := b2.trans (hb3.mono b2.size)
  clear b2 S2 k2 hb3 W1
  have s3 : w2.cell? ⟨w.heap.size, 3, none⟩ = some (.slice AF nF cF) := Bk.cell S3 3
  have l3 := Bk.lt S3
  have l4 := k3.lt
  go_wp2_with fail
  obtain ⟨W4, hW⟩ : ∃ X, w2.alloc (.cells #[.slice none 0 0] 63) = X := ⟨_, rfl⟩
  have hb4 : Below w2.heap.size w2 W4 := by rw [← hW]; exact (Below.refl _ _).alloc (Nat.le_refl _) _
  have k4 : Bk W4 w2.heap.size 63 #[.slice none 0 0] := by rw [← hW]; exact Bk.new _ _ _
  rw [hW]
  clear hW s3
  go_loopw [27] (fun iv wr => ∃ (i : Nat) (v : Value), iv = .int .i64 i ∧ i ≤ nF ∧ Bk wr w2.heap.size 63 #[v] ∧ OBx wr w2.heap.size v (Sy.taken ns (fs.take i) ss b) ∧ v.ownBlock ≠ some w2.heap.size ∧ Below w2.heap.size w2 wr) (fun iv _ => nF - (intOf iv).toNat)
  case atStart => exact ⟨0, _, rfl, by omega, k4, OBx.nil _ _, by simp [Value.ownBlock], hb4⟩
  case round =>
    clear k4 hb4
    obtain ⟨i, v, rfl, hi, kl, hob, hvo, hbw⟩ := hrel
    have hzr := hbw.size
    have hll := kl.lt
    have b0r : Below w.heap.size w wr := b3.trans (hbw.mono b3.size)
    have Sr := SB.below S3 hbw l3
    have kr := k3.below hbw l4
    by_cases hlt : i < nF
    · obtain ⟨b1, o1, rfl, hbb1, hc1⟩ := (hr.below b0r).1 i (by omega)
      obtain ⟨d0, d1, d2, d3, d4⟩ := hc1 i (by omega)
      have hparts := ((hr.below b0r).2 i (by omega)).1
      have hone := HF.out.one i (by omega)
      have hkind := HF.out.kind i (by omega)
      obtain ⟨k, p, hk, hps, hid, hno⟩ := HF.out.part i (by omega)
      have HT := Lib.hid (Sy.taken_succ ns fs ss b i (by omega))
      have HL := Lib.hid (Nat.le_trans (Sy.taken_len ns (fs.take i) ss b) (by simp; omega : (fs.take i).length ≤ 1000000))
      obtain ⟨F, hF⟩ : ∃ F, ft fs i = F := ⟨_, rfl⟩
      have HT2 : Hid (Sy.taken ns (fs.take (i + 1)) ss b = Sy.taken ns (fs.take i) ss b ++ Sy.take1 ns ss b F) := Lib.hid (by rw [← hF]; exact HT.out)
      rw [hF] at d0 d1 d2 d3 d4 hparts hone hkind hps
      clear hF HT hc1
      obtain ⟨fid, fkind, fcls, fname, fpA, fpn, fpc, fparts⟩ := F
      dsimp only at d0 d1 d2 d3 d4 hparts hone hkind hps
      subst hone
      subst hps
      obtain ⟨bp, op, rfl, hbbp, hcp⟩ := hparts 0 (by simp)
      have cp : wr.cell? ⟨bp, op, none⟩ = some (.int .i64 p) := hcp 0 (by simp)
      have HN := Lib.hid (Sy.node_hit (ns := ns) hk hid hno)
      have HNO := Lib.hid hno
      have HID := Lib.hid hid
      have HKI := Lib.hid hkind
      have HT1 : Hid (Sy.take1 ns ss b ⟨fid, fkind, fcls, fname, some ⟨bp, op, none⟩, 1, fpc, [p]⟩ = if Sy.inb b (nd ns k).x (nd ns k).y then (match Sy.find ss fkind fcls with | some s => if 0 < s.w ∧ 0 < s.h then [Sy.box s (nd ns k).x (nd ns k).y] else [] | none => []) else []) := Lib.hid (by
        unfold Sy.take1
        rw [show gi [p] 0 = p from rfl, HN.out])
      clear hcp hparts hno hid hkind HN
      go_wp2_with fail
      refine (shape_point _ _ HKI.out).mono ?_
      first | rintro e w5 rfl rfl | rintro e w5 ⟨rfl, rfl⟩
      go_upto_region 12 with fail
      obtain ⟨W5, hW⟩ : ∃ X, wr.alloc (.cells #[.int .i64 fid, .int .i64 fkind, .int .i64 fcls, .string fname, .slice (some ⟨bp, op, none⟩) 1 fpc] 47) = X := ⟨_, rfl⟩
      have hb5 : Below wr.heap.size wr W5 := by rw [← hW]; exact (Below.refl _ _).alloc (Nat.le_refl _) _
      have kf : Bk W5 wr.heap.size 47 #[.int .i64 fid, .int .i64 fkind, .int .i64 fcls, .string fname, .slice (some ⟨bp, op, none⟩) 1 fpc] := by rw [← hW]; exact Bk.new _ _ _
      rw [hW]
      clear hW d0 d1 d2 d3 d4
      have b05 : Below w.heap.size w W5 := b0r.trans (hb5.mono b0r.size)
      have c5 : W5.cell? ⟨bp, op, none⟩ = some (.int .i64 p) := (hb5.cell (p := ⟨bp, op, none⟩) hbbp).trans cp
      have S5 := SB.below Sr hb5 (Bk.lt Sr)
      have a0 : W5.cell? ⟨w.heap.size, 0, none⟩ = some (.slice A n c) := Bk.cell S5 0
      have a1 : W5.cell? ⟨w.heap.size, 1, none⟩ = some (.slice none 0 0) := Bk.cell S5 1
      have a2 : W5.cell? ⟨w.heap.size, 2, none⟩ = some (.slice none 0 0) := Bk.cell S5 2
      have f4 : W5.cell? ⟨wr.heap.size, 4, none⟩ = some (.slice (some ⟨bp, op, none⟩) 1 fpc) := kf.cell 4
      have z5 := hb5.size
      have z6 := kf.lt
      have z7 := b0r.size
      have z8 : w.heap.size < W5.heap.size := Bk.lt S5
      have z9 : bp < W5.heap.size := by omega
      clear cp
      have HKP : Hid (∀ X, Below W5.heap.size W5 X → X.cell? ⟨w.heap.size, 0, none⟩ = some (.slice A n c) ∧ X.cell? ⟨w.heap.size, 1, none⟩ = some (.slice none 0 0) ∧ X.cell? ⟨w.heap.size, 2, none⟩ = some (.slice none 0 0) ∧ X.cell? ⟨wr.heap.size, 4, none⟩ = some (.slice (some ⟨bp, op, none⟩) 1 fpc) ∧ X.cell? ⟨bp, op, none⟩ = some (.int .i64 p)) :=
        Lib.hid (fun X hX => ⟨(hX.cell (p := ⟨w.heap.size, 0, none⟩) z8).trans a0, (hX.cell (p := ⟨w.heap.size, 1, none⟩) z8).trans a1, (hX.cell (p := ⟨w.heap.size, 2, none⟩) z8).trans a2, (hX.cell (p := ⟨wr.heap.size, 4, none⟩) z6).trans f4, (hX.cell (p := ⟨bp, op, none⟩) z9).trans c5⟩)
      go_cut [11, 12] (fun a ok wx => ∃ q : Nat, a = .pointer (some ⟨q, 0, none⟩) ∧ ok = .bool true ∧ NodeIn q (nd ns k) wx ∧ Below W5.heap.size W5 wx)
      case first =>
        go_region_held3 (fun w' => w'.cell? ⟨w.heap.size, 0, none⟩ = some (.slice A n c) ∧ w'.cell? ⟨w.heap.size, 1, none⟩ = some (.slice none 0 0) ∧ w'.cell? ⟨w.heap.size, 2, none⟩ = some (.slice none 0 0) ∧ w'.cell? ⟨wr.heap.size, 4, none⟩ = some (.slice (some ⟨bp, op, none⟩) 1 fpc) ∧ w'.cell? ⟨bp, op, none⟩ = some (.int .i64 p))
          ((first | exact HKP.out _ (by go_grown) | exact HKP.out _ hb7 | exact HKP.out _ (hb7.alloc (by simp; omega) _)))
          (first | (go_at_call 25; refine (node_any A c n ns _ _ p k _ hn (hA.below (by go_grown)) (by omega) (by omega) HID.out HNO.out).mono ?_; first | rintro e w6 rfl hb6 | rintro e w6 ⟨rfl, hb6⟩; have hb7 : Below W5.heap.size W5 w6 := Below.trans (by go_grown) (hb6.mono (by simp)); have hz6 := hb7.size; have hz66 := hb6.size; simp at hz66; have hcc := fun (b' o' : Nat) (h' : b' < _) => hb6.cell (p := ⟨b', o', none⟩) h'; have hff := fun (b' o' : Nat) (h' : b' < _) => hb6.frozen (p := ⟨b', o', none⟩) h'))
        all_goals (
          go_wp2_with fail
          go_meet
          case rel =>
            refine ⟨_, rfl, rfl, ⟨?_, ?_, ?_⟩, ?_⟩
            · simp; try omega
            · first | exact (Bk.new w6 _ _).cell 1 | exact (((Bk.setAt (cs := #[.int .i64 0, .int .i64 0, .int .i64 0]) ((hb6.block W5.heap.size (by simp)).trans (heap_alloc_new W5 _)) 0 _).setAt 1 _).setAt 2 _).cell 1
            · first | exact (Bk.new w6 _ _).cell 2 | exact (((Bk.setAt (cs := #[.int .i64 0, .int .i64 0, .int .i64 0]) ((hb6.block W5.heap.size (by simp)).trans (heap_alloc_new W5 _)) 0 _).setAt 1 _).setAt 2 _).cell 2
            · go_grown)
      case rest =>
        obtain ⟨q, rfl, rfl, hq, hbc⟩ := hcut
        clear a0 a1 a2 f4 c5 HKP HNO HID
        have b0c : Below w.heap.size w wc := b05.trans (hbc.mono b05.size)
        have b2c : Below w2.heap.size w2 wc := (hbw.trans (hb5.mono hzr)).trans (hbc.mono (by omega))
        have hzc := hbc.size
        have kc := k3.below b2c l4
        have kfc := kf.below hbc z6
        have g0 := kc.cell 0
        have g1 := kc.cell 1
        have g2 := kc.cell 2
        have g3 := kc.cell 3
        simp only [List.getElem?_toArray, List.getElem?_cons_zero, List.getElem?_cons_succ] at g0 g1 g2 g3
        obtain ⟨q1, q2, q3⟩ := hq
        have klc : Bk wc w2.heap.size 63 #[v] := (kl.below hb5 hll).below hbc (by omega)
        have hobc : OBx wc w2.heap.size v (Sy.taken ns (fs.take i) ss b) := OBx.below (hob.below hb5 (Nat.le_refl _)) hbc (Nat.le_refl _)
        have HOB := Lib.hid hobc
        have t1 := kfc.cell 1
        have t2 := kfc.cell 2
        simp only [List.getElem?_toArray, List.getElem?_cons_zero, List.getElem?_cons_succ] at t1 t2
        clear hobc hob kl kr Sr S5 kf hb5 b05 b0r hbw
        by_cases hin : Sy.inb b (nd ns k).x (nd ns k).y
        rotate_left
        · go_wp2_with fail
          refine (in_at b _ _ false _ (decide_eq_false hin)).mono ?_
          first | rintro e w7 rfl hb7 | rintro e w7 ⟨rfl, hb7⟩
          go_wp2_with fail
          go_roundw
          case rel => exact ⟨i + 1, v, by go_num, by omega, klc.below hb7 klc.lt, by rw [HT2.out, HT1.out, if_neg hin, List.append_nil]; exact HOB.out.below hb7 (Nat.le_refl _), hvo, b2c.trans (hb7.mono b2c.size)⟩
          case measure => simp [intOf]; omega
        have HIN := Lib.hid hin
        go_wp2_with fail
        refine (in_at b _ _ true _ (decide_eq_true hin)).mono ?_
        first | rintro e w7 rfl hb7 | rintro e w7 ⟨rfl, hb7⟩
        have b07 : Below w.heap.size w w7 := b0c.trans (hb7.mono b0c.size)
        have b27 : Below w2.heap.size w2 w7 := b2c.trans (hb7.mono b2c.size)
        have kl7 := klc.below hb7 klc.lt
        have ob7 := Lib.hid (HOB.out.below hb7 (Nat.le_refl _))
        have kf7 := kfc.below hb7 kfc.lt
        have hq7 := NodeIn.below ⟨q1, q2, q3⟩ hb7
        have z12 := b27.size
        clear t1 t2 g0 g1 g2 g3 q1 q2 q3 hin HOB
        have t1 := kf7.cell 1
        have t2 := kf7.cell 2
        simp only [List.getElem?_toArray, List.getElem?_cons_zero, List.getElem?_cons_succ] at t1 t2
        obtain ⟨⟨s, r⟩, hsr⟩ : ∃ sr : Sym × Bool, ((Sy.find ss fkind fcls).getD Sym.zero, (Sy.find ss fkind fcls).isSome) = sr := ⟨_, rfl⟩
        have HSR := Lib.hid hsr
        clear hsr
        go_wp2_with fail
        refine (yfind_at AS cS nS ss fkind fcls s r _ HSR.out hnS (by omega) (hS.below b07)).mono ?_
        first | rintro e w8 rfl hb8 | rintro e w8 ⟨rfl, hb8⟩
        go_upto_region 15 with fail
        obtain ⟨W9, hW⟩ : ∃ X, w8.alloc (.cells #[.int .i64 s.kind, .int .i64 s.cls, .int .i64 s.w, .int .i64 s.h, .int .i64 s.l, .int .i64 s.i0, .int .i64 s.i1, .int .i64 s.i2, .int .i64 s.i3] 26) = X := ⟨_, rfl⟩
        have hb9 : Below w8.heap.size w8 W9 := by rw [← hW]; exact (Below.refl _ _).alloc (Nat.le_refl _) _
        have ky : Bk W9 w8.heap.size 26 #[.int .i64 s.kind, .int .i64 s.cls, .int .i64 s.w, .int .i64 s.h, .int .i64 s.l, .int .i64 s.i0, .int .i64 s.i1, .int .i64 s.i2, .int .i64 s.i3] := by rw [← hW]; exact Bk.new _ _ _
        rw [hW]
        clear hW t1 t2
        have hb79 : Below w7.heap.size w7 W9 := hb8.trans (hb9.mono hb8.size)
        have b29 : Below w2.heap.size w2 W9 := b27.trans (hb79.mono z12)
        have kl9 := kl7.below hb79 kl7.lt
        have ob9 := Lib.hid (ob7.out.below hb79 (Nat.le_refl _))
        have hq9 := hq7.below hb79
        clear kl7 ob7 kf7 hq7 hb8 hb9 hb79
        by_cases hgo : r = true ∧ 0 < s.w ∧ 0 < s.h
        rotate_left
        · have HE : Hid (Sy.taken ns (fs.take (i + 1)) ss b = Sy.taken ns (fs.take i) ss b) := Lib.hid (by
            rw [HT2.out, HT1.out, if_pos HIN.out]
            have h := HSR.out
            cases hfd : Sy.find ss fkind fcls with
            | none => simp
            | some s' =>
              rw [hfd] at h
              simp at h
              obtain ⟨rfl, rfl⟩ := h
              simp only [true_and] at hgo
              simp [hgo])
          have y2 := ky.cell 2
          have y3 := ky.cell 3
          simp only [List.getElem?_toArray, List.getElem?_cons_zero, List.getElem?_cons_succ] at y2 y3
          cases r with
          | false =>
            go_wp2_with fail
            go_roundw
            case rel => exact ⟨i + 1, v, by go_num, by omega, kl9, by rw [HE.out]; exact ob9.out, hvo, b29⟩
            case measure => simp [intOf]; omega
          | true =>
            by_cases hw0 : 0 < s.w
            · have hh0 : ¬ 0 < s.h := fun h => hgo ⟨rfl, hw0, h⟩
              clear hgo
              go_wp2_with fail
              go_roundw
              case rel => exact ⟨i + 1, v, by go_num, by omega, kl9, by rw [HE.out]; exact ob9.out, hvo, b29⟩
              case measure => simp [intOf]; omega
            · clear hgo
              go_wp2_with fail
              go_roundw
              case rel => exact ⟨i + 1, v, by go_num, by omega, kl9, by rw [HE.out]; exact ob9.out, hvo, b29⟩
              case measure => simp [intOf]; omega
        · obtain ⟨rfl, hw0, hh0⟩ := hgo
          have HE : Hid (Sy.taken ns (fs.take (i + 1)) ss b = Sy.taken ns (fs.take i) ss b ++ [Sy.box s (nd ns k).x (nd ns k).y]) := Lib.hid (by
            rw [HT2.out, HT1.out, if_pos HIN.out]
            have h := HSR.out
            cases hfd : Sy.find ss fkind fcls with
            | none => rw [hfd] at h; simp at h
            | some s' =>
              rw [hfd] at h
              simp at h
              obtain rfl := h
              simp [hw0, hh0])
          have y0 := ky.cell 0
          have y1 := ky.cell 1
          have y2 := ky.cell 2
          have y3 := ky.cell 3
          have y4 := ky.cell 4
          have y5 := ky.cell 5
          have y6 := ky.cell 6
          have y7 := ky.cell 7
          have y8 := ky.cell 8
          simp only [List.getElem?_toArray, List.getElem?_cons_zero, List.getElem?_cons_succ] at y0 y1 y2 y3 y4 y5 y6 y7 y8
          obtain ⟨q1, q2, q3⟩ := hq9
          go_wp2_with fail
          refine (ybox_at s _ _ _).mono ?_
          first | rintro e w10 rfl hb10 | rintro e w10 ⟨rfl, hb10⟩
          have kl10 := kl9.below hb10 kl9.lt
          have ob10 := Lib.hid (ob9.out.below hb10 (Nat.le_refl _))
          have b210 : Below w2.heap.size w2 w10 := b29.trans (hb10.mono b29.size)
          clear y0 y1 y2 y3 y4 y5 y6 y7 y8 q1 q2 q3 ky ob9 kl9
          go_wp2_with fail
          refine (add_any w2.heap.size w2.heap.size v (Sy.taken ns (fs.take i) ss b) (Sy.box s (nd ns k).x (nd ns k).y) _ kl10 ob10.out HL.out (Nat.le_refl _) hvo).mono ?_
          rintro e w11 ⟨rfl, g, cap, kl11, ob11, hgne, hb11⟩
          have OB11 := Lib.hid ob11
          clear ob11
          go_wp2_with fail
          go_roundw
          case rel => exact ⟨i + 1, _, by go_num, by omega, kl11, by rw [HE.out]; exact OB11.out, by simp [Value.ownBlock]; exact hgne, b210.trans hb11⟩
          case measure => simp [intOf]; omega
    · have l3' := kl.cell 0
      simp only [List.getElem?_toArray, List.getElem?_cons_zero] at l3'
      go_wp2_with fail
      go_ret2
      obtain rfl : i = nF := by omega
      refine ⟨v, rfl, ?_, b0r⟩
      rw [← hnF, List.take_length] at hob
      obtain ⟨h1, h2⟩ := hob
      refine ⟨h1, ?_⟩
      rcases h2 with h2 | ⟨g, cap, cur, hv, hg, r⟩
      · exact Or.inl h2
      · exact Or.inr ⟨g, cap, cur, hv, by omega, r⟩
end Go.Proofs.YtdbhijkfhcgojaaGreatDoor
