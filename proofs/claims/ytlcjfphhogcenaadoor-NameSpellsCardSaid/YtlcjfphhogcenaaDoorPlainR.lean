/-
  Names and their order: the plain laws (a total order; the names of a prefix follow one another; folded keys; spellings).
-/
import Derived.Test.YtlcjfphhogcenaaDoorNameJ
set_option linter.unusedVariables false
set_option linter.unusedSimpArgs false
namespace Go.Proofs.YtlcjfphhogcenaaDoor
namespace Nm

theorem cmpI_range : ∀ xs ys : List Int, -1 ≤ cmpI xs ys ∧ cmpI xs ys ≤ 1
  | [], [] => by simp [cmpI]
  | [], _ :: _ => by simp [cmpI]
  | _ :: _, [] => by simp [cmpI]
  | x :: xs, y :: ys => by
    have ih := cmpI_range xs ys
    simp only [cmpI]
    split
    · omega
    · split
      · omega
      · exact ih
theorem cmpI_neg : ∀ xs ys : List Int, cmpI ys xs = - cmpI xs ys
  | [], [] => rfl
  | [], _ :: _ => rfl
  | _ :: _, [] => rfl
  | x :: xs, y :: ys => by
    have ih := cmpI_neg xs ys
    simp only [cmpI]
    by_cases h1 : x < y
    · rw [if_pos h1, if_neg (by omega), if_pos h1]; rfl
    · by_cases h2 : y < x
      · rw [if_pos h2, if_neg h1, if_pos h2]
      · rw [if_neg h1, if_neg h2, if_neg h2, if_neg h1, ih]
theorem cmpI_trans : ∀ xs ys zs : List Int, cmpI xs ys ≤ 0 → cmpI ys zs ≤ 0 → cmpI xs zs ≤ 0
  | [], _, [], _, _ => by simp [cmpI]
  | [], _, _ :: _, _, _ => by simp [cmpI]
  | _ :: _, [], _, h, _ => by simp [cmpI] at h
  | _ :: _, _ :: _, [], _, h => by simp [cmpI] at h
  | x :: xs, y :: ys, z :: zs, h1, h2 => by
    simp only [cmpI] at h1 h2 ⊢
    by_cases a1 : x < y
    · by_cases b1 : y < z
      · rw [if_pos (by omega)]; decide
      · rw [if_neg b1] at h2
        by_cases b2 : z < y
        · rw [if_pos b2] at h2; omega
        · rw [if_pos (by omega)]; decide
    · rw [if_neg a1] at h1
      by_cases a2 : y < x
      · rw [if_pos a2] at h1; omega
      · rw [if_neg a2] at h1
        by_cases b1 : y < z
        · rw [if_pos (by omega)]; decide
        · rw [if_neg b1] at h2
          by_cases b2 : z < y
          · rw [if_pos b2] at h2; omega
          · rw [if_neg b2] at h2
            rw [if_neg (by omega), if_neg (by omega)]
            exact cmpI_trans xs ys zs h1 h2
/-- What lies between two lists that begin with p begins with p. -/
theorem cmpI_between : ∀ (p xs ys zs : List Int), p <+: xs → p <+: zs → cmpI xs ys ≤ 0 → cmpI ys zs ≤ 0 → p <+: ys
  | [], _, ys, _, _, _, _, _ => List.nil_prefix
  | a :: p, xs, ys, zs, h1, h2, h3, h4 => by
    obtain ⟨t, rfl⟩ := h1
    obtain ⟨u, rfl⟩ := h2
    cases ys with
    | nil => simp [cmpI] at h3
    | cons y ys =>
      simp only [List.cons_append, cmpI] at h3 h4
      have e1 : ¬ y < a := fun h => by rw [if_neg (by omega), if_pos h] at h3; omega
      have e2 : ¬ a < y := fun h => by rw [if_neg (by omega), if_pos h] at h4; omega
      rw [if_neg e2, if_neg e1] at h3
      rw [if_neg e1, if_neg e2] at h4
      obtain rfl : a = y := by omega
      obtain ⟨v, rfl⟩ := cmpI_between p _ _ _ ⟨t, rfl⟩ ⟨u, rfl⟩ h3 h4
      exact ⟨v, rfl⟩
theorem nb_inj {a b : List UInt8} (h : nb a = nb b) : a = b := by
  unfold nb at h
  refine List.map_inj_right (fun x y e => ?_) |>.1 h
  exact UInt8.toNat_inj.1 (by omega)

/-- The order by three lists: first whether it is a name, then the key, then the bytes. -/
def three (a : List UInt8) : List Int × List Int × List Int := ([if check a = 0 then 1 else 0], key a, nb a)
theorem cmp_three (a b : List UInt8) : cmp a b = if cmpI (three a).1 (three b).1 ≠ 0 then cmpI (three a).1 (three b).1
    else if cmpI (three a).2.1 (three b).2.1 ≠ 0 then cmpI (three a).2.1 (three b).2.1 else cmpI (three a).2.2 (three b).2.2 := by
  unfold cmp three
  by_cases ha : check a = 0 <;> by_cases hb : check b = 0 <;> simp [ha, hb, cmpI, nb_cmp]
theorem cmp_range (a b : List UInt8) : -1 ≤ cmp a b ∧ cmp a b ≤ 1 := by
  rw [cmp_three]
  split
  · exact cmpI_range _ _
  · split
    · exact cmpI_range _ _
    · exact cmpI_range _ _
theorem cmp_neg (a b : List UInt8) : cmp b a = - cmp a b := by
  rw [cmp_three, cmp_three a b, cmpI_neg (three a).1, cmpI_neg (three a).2.1, cmpI_neg (three a).2.2]
  have e : ∀ x : Int, (-x ≠ 0) ↔ x ≠ 0 := fun x => by omega
  simp only [e]
  split
  · rfl
  · split <;> rfl
theorem cmp_zero (a b : List UInt8) : cmp a b = 0 ↔ a = b := by
  constructor
  · intro h
    rw [cmp_three] at h
    split at h
    · contradiction
    · split at h
      · contradiction
      · exact nb_inj ((cmpI_eq _ _).1 h)
  · rintro rfl
    rw [cmp_three, (cmpI_eq _ _).2 rfl, (cmpI_eq _ _).2 rfl, (cmpI_eq _ _).2 rfl]
    simp
theorem cmp_le (a b : List UInt8) : cmp a b ≤ 0 ↔ cmpI (three a).1 (three b).1 ≤ 0 ∧ ((three a).1 = (three b).1 → cmpI (three a).2.1 (three b).2.1 ≤ 0 ∧ ((three a).2.1 = (three b).2.1 → cmpI (three a).2.2 (three b).2.2 ≤ 0)) := by
  rw [cmp_three]
  by_cases h1 : (three a).1 = (three b).1
  · rw [if_neg (by rw [(cmpI_eq _ _).2 h1]; simp)]
    by_cases h2 : (three a).2.1 = (three b).2.1
    · rw [if_neg (by rw [(cmpI_eq _ _).2 h2]; simp)]
      simp [h1, h2, (cmpI_eq _ _).2]
    · have : cmpI (three a).2.1 (three b).2.1 ≠ 0 := fun e => h2 ((cmpI_eq _ _).1 e)
      rw [if_pos this]
      simp [h1, h2, (cmpI_eq _ _).2]
  · have : cmpI (three a).1 (three b).1 ≠ 0 := fun e => h1 ((cmpI_eq _ _).1 e)
    rw [if_pos this]
    simp [h1]
theorem cmpI_anti {xs ys : List Int} (h1 : cmpI xs ys ≤ 0) (h2 : cmpI ys xs ≤ 0) : xs = ys := by
  rw [cmpI_neg] at h2
  exact (cmpI_eq _ _).1 (by omega)
theorem cmp_trans (a b c : List UInt8) (h1 : cmp a b ≤ 0) (h2 : cmp b c ≤ 0) : cmp a c ≤ 0 := by
  rw [cmp_le] at h1 h2 ⊢
  obtain ⟨p1, q1⟩ := h1
  obtain ⟨p2, q2⟩ := h2
  refine ⟨cmpI_trans _ _ _ p1 p2, fun e => ?_⟩
  have e1 : (three a).1 = (three b).1 := cmpI_anti p1 (by rw [e]; exact p2)
  have e2 : (three b).1 = (three c).1 := e1.symm.trans e
  obtain ⟨r1, s1⟩ := q1 e1
  obtain ⟨r2, s2⟩ := q2 e2
  refine ⟨cmpI_trans _ _ _ r1 r2, fun f => ?_⟩
  have f1 : (three a).2.1 = (three b).2.1 := cmpI_anti r1 (by rw [f]; exact r2)
  exact cmpI_trans _ _ _ (s1 f1) (s2 (f1.symm.trans f))

theorem begins_iff {a b : List UInt8} : begins a b = true ↔ check a = 0 ∧ (b = [] ∨ (check b = 0 ∧ key b <+: key a)) := by unfold begins; exact decide_eq_true_iff
theorem check_nil : check [] ≠ 0 := by decide
theorem runs {a b c p : List UInt8} (hb : check b = 0) (h1 : cmp a b ≤ 0) (h2 : cmp b c ≤ 0) (h3 : begins a p = true) (h4 : begins c p = true) : begins b p = true := by
  rw [begins_iff] at h3 h4 ⊢
  refine ⟨hb, ?_⟩
  rcases h3.2 with h | ⟨hp, k1⟩
  · exact Or.inl h
  rcases h4.2 with h | ⟨_, k2⟩
  · exact Or.inl h
  refine Or.inr ⟨hp, ?_⟩
  have t : ∀ l, check l = 0 → (three l).1 = [1] := fun l h => by simp [three, h]
  have r1 := ((cmp_le _ _).1 h1).2 (by rw [t _ h3.1, t _ hb])
  have r2 := ((cmp_le _ _).1 h2).2 (by rw [t _ h4.1, t _ hb])
  exact cmpI_between _ _ _ _ k1 k2 r1.1 r2.1
theorem begins_trans {a b c : List UInt8} (h1 : begins a b = true) (h2 : begins b c = true) : begins a c = true := by
  rw [begins_iff] at h1 h2 ⊢
  refine ⟨h1.1, ?_⟩
  rcases h1.2 with rfl | ⟨_, k1⟩
  · exact absurd h2.1 check_nil
  rcases h2.2 with h | ⟨hc, k2⟩
  · exact Or.inl h
  · exact Or.inr ⟨hc, k2.trans k1⟩
theorem begins_self (a : List UInt8) : begins a a = (check a == 0) := by
  rw [Bool.eq_iff_iff, begins_iff, beq_iff_eq]
  exact ⟨fun h => h.1, fun h => ⟨h, Or.inr ⟨h, List.prefix_rfl⟩⟩⟩
theorem begins_nil (a : List UInt8) : begins a [] = (check a == 0) := by
  rw [Bool.eq_iff_iff, begins_iff, beq_iff_eq]
  exact ⟨fun h => h.1, fun h => ⟨h, Or.inl rfl⟩⟩

theorem fold_mark {r : Int} (h : mark r = false) : mark (Gl.fold r) = false := by
  rw [Bool.eq_false_iff] at h ⊢
  intro hm
  apply h
  simp only [mark, Bool.or_eq_true, beq_iff_eq] at hm ⊢
  unfold Gl.fold at hm
  repeat' split at hm
  all_goals omega
theorem key_mem {l : List UInt8} {x : Int} (h : x ∈ key l) : Gl.fold x = x ∧ mark x = false := by
  unfold key keyOf at h
  rw [List.mem_map] at h
  obtain ⟨r, hr, rfl⟩ := h
  rw [List.mem_filter] at hr
  exact ⟨Gl.fold_fold r, fold_mark (by simpa using hr.2)⟩
theorem key_at {l : List UInt8} {i : Nat} (h : i < (key l).length) : Gl.fold (gi (key l) i) = gi (key l) i ∧ mark (gi (key l) i) = false := by
  rw [gi_eq h]
  exact key_mem (List.getElem_mem h)
theorem key_le_read (l : List UInt8) : (key l).length ≤ (read l).length := by
  unfold key keyOf
  rw [List.length_map]
  exact List.length_filter_le _ _
theorem key_bounds {l : List UInt8} {x : Int} (h : x ∈ key l) : 0 ≤ x ∧ x ≤ 41000 := by
  by_cases hc : check l = 0
  · unfold key keyOf at h
    rw [List.mem_map] at h
    obtain ⟨r, hr, rfl⟩ := h
    rw [List.mem_filter] at hr
    have := Gl.script_bounds ((read_ok hc).2.1 r hr.1)
    unfold Gl.fold
    repeat' split
    all_goals omega
  · rw [key_err hc] at h; cases h

/-! spellings -/
/-- The marks that NameSpells puts between two letters. -/
def marks7 : List (List UInt8) := [[32], [39], [45], [46], [40], [41], []]
theorem units_ascii (r : Int) (b : UInt8) (h : Gl.unit r = [b]) (L : List Int) : Gl.units (r :: L) = b :: Gl.units L := by simp [Gl.units, h]
theorem dec_cons {b : UInt8} {r : Int} (hu : Gl.unit r = [b]) (hs : 0 ≤ Gl.script r) {l : List UInt8} {L : List Int} (h : Gl.decode l = some L) : Gl.decode (b :: l) = some (r :: L) := by
  obtain ⟨hv, rfl⟩ := (Gl.decode_iff _ _).1 h
  refine (Gl.decode_iff _ _).2 ⟨?_, by rw [units_ascii r b hu]⟩
  simp only [Gl.valid, List.all_cons, Bool.and_eq_true, decide_eq_true_eq] at hv ⊢
  exact ⟨hs, hv⟩
theorem dec_ab {l : List UInt8} {L : List Int} (h : Gl.decode (97 :: 98 :: l) = some L) : ∃ M, L = 97 :: 98 :: M ∧ Gl.decode l = some M := by
  cases hd : Gl.decode l with
  | none =>
    exfalso
    obtain ⟨hv, hu⟩ := (Gl.decode_iff _ _).1 h
    have h1 : Gl.first (97 :: 98 :: l) = some 97 := by
      have := Gl.first_unit (r := 97) (by decide) (98 :: l)
      rwa [show Gl.unit 97 = [97] by decide] at this
    have h2 : Gl.first (98 :: l) = some 98 := by
      have := Gl.first_unit (r := 98) (by decide) l
      rwa [show Gl.unit 98 = [98] by decide] at this
    have step : ∀ (b : UInt8) (r : Int) (t : List UInt8) (K : List Int), Gl.unit r = [b] → Gl.first (b :: t) = some r → Gl.valid K = true → b :: t = Gl.units K → ∃ K', K = r :: K' ∧ t = Gl.units K' := by
      intro b r t K hr hf hv hu
      cases K with
      | nil => simp [Gl.units] at hu
      | cons x K' =>
        simp only [Gl.valid, List.all_cons, Bool.and_eq_true, decide_eq_true_eq] at hv
        have hx := Gl.first_unit hv.1 (Gl.units K')
        rw [show Gl.unit x ++ Gl.units K' = b :: t from by rw [hu]; simp [Gl.units]] at hx
        rw [hf] at hx
        injection hx with hx
        subst hx
        refine ⟨K', rfl, ?_⟩
        rw [units_ascii r b hr] at hu
        injection hu
    obtain ⟨K1, rfl, hu1⟩ := step 97 97 _ _ (by decide) h1 hv hu
    have hv1 : Gl.valid K1 = true := by simp only [Gl.valid, List.all_cons, Bool.and_eq_true] at hv ⊢; exact hv.2
    obtain ⟨K2, rfl, hu2⟩ := step 98 98 _ _ (by decide) h2 hv1 hu1
    have hv2 : Gl.valid K2 = true := by simp only [Gl.valid, List.all_cons, Bool.and_eq_true] at hv1 ⊢; exact hv1.2
    rw [(Gl.decode_iff l K2).2 ⟨hv2, hu2⟩] at hd
    cases hd
  | some M =>
    have := dec_cons (b := 97) (r := 97) (by decide) (by decide) (dec_cons (b := 98) (r := 98) (by decide) (by decide) hd)
    rw [this] at h
    injection h with h
    exact ⟨M, h.symm, rfl⟩
theorem check_parts {l : List UInt8} {L : List Int} (h0 : l ≠ []) (h1 : l.length ≤ 40) (hd : Gl.decode l = some L) : check l = 0 ↔ blanks L = false ∧ common L = false := by
  rw [check_some h0 h1 hd]
  cases blanks L <;> cases common L <;> simp
theorem blanks_ab {M : List Int} (h : blanks (97 :: 98 :: M) = false) : blanks (98 :: M) = false := by
  simp [blanks, dbl] at h ⊢
  exact h
theorem last_cons (x y : Int) (M : List Int) : (x :: y :: M).getLast? = (y :: M).getLast? := by simp
theorem blanks_cons {x : Int} {M : List Int} (hx : x ≠ 32) (h : blanks (98 :: M) = false) : blanks (x :: 98 :: M) = false := by
  simp only [blanks, Bool.or_eq_false_iff, List.head?_cons, dbl, last_cons] at h ⊢
  have hxb : (x == 32) = false := by simpa using hx
  refine ⟨⟨by simpa using hx, h.1.2⟩, ?_⟩
  have := h.2
  simp [dbl, hxb] at this ⊢
  exact this
theorem blanks_cons2 {m : Int} {M : List Int} (h : blanks (98 :: M) = false) : blanks (65 :: m :: 98 :: M) = false := by
  simp only [blanks, Bool.or_eq_false_iff, List.head?_cons, dbl, last_cons] at h ⊢
  refine ⟨⟨by decide, h.1.2⟩, ?_⟩
  have := h.2
  simp [dbl] at this ⊢
  exact this
theorem common_A (L : List Int) : common (65 :: L) = false := by
  unfold common
  rw [List.all_cons, show (Gl.script 65 == 0) = false by decide, Bool.false_and]
theorem read_some {l : List UInt8} {L : List Int} (h : check l = 0) (hd : Gl.decode l = some L) : read l = L := by unfold read; rw [if_pos h, hd]; rfl

theorem spells_mark {m : UInt8} {r : Int} (hu : Gl.unit r = [m]) (hs : Gl.script r = 0) (hm : mark r = true) {l : List UInt8} (hl : l.length ≤ 30) (hc : check (97 :: 98 :: l) = 0) :
    check (65 :: m :: 98 :: l) = 0 ∧ key (65 :: m :: 98 :: l) = key (97 :: 98 :: l) := by
  obtain ⟨hd, _, _⟩ := read_ok hc
  obtain ⟨M, hM, hdM⟩ := dec_ab hd
  have hb := (not_common hc).2
  rw [hM] at hb
  have hD : Gl.decode (65 :: m :: 98 :: l) = some (65 :: r :: 98 :: M) :=
    dec_cons (r := 65) (by decide) (by decide) (dec_cons hu (by omega) (dec_cons (r := 98) (by decide) (by decide) hdM))
  have hC : check (65 :: m :: 98 :: l) = 0 := (check_parts (by simp) (by simp; omega) hD).2 ⟨blanks_cons2 (blanks_ab hb), common_A _⟩
  refine ⟨hC, ?_⟩
  unfold key
  rw [hM, read_some hC hD]
  have h65 : mark 65 = false := by decide
  have h97 : mark 97 = false := by decide
  have f65 : Gl.fold 65 = Gl.fold 97 := by decide
  simp [keyOf, List.filter_cons, hm, h65, h97, f65]
theorem spells_none {l : List UInt8} (hl : l.length ≤ 30) (hc : check (97 :: 98 :: l) = 0) :
    check (65 :: 98 :: l) = 0 ∧ key (65 :: 98 :: l) = key (97 :: 98 :: l) := by
  obtain ⟨hd, _, _⟩ := read_ok hc
  obtain ⟨M, hM, hdM⟩ := dec_ab hd
  have hb := (not_common hc).2
  rw [hM] at hb
  have hD : Gl.decode (65 :: 98 :: l) = some (65 :: 98 :: M) :=
    dec_cons (r := 65) (by decide) (by decide) (dec_cons (r := 98) (by decide) (by decide) hdM)
  have hC : check (65 :: 98 :: l) = 0 := (check_parts (by simp) (by simp; omega) hD).2 ⟨blanks_cons (by decide) (blanks_ab hb), common_A _⟩
  refine ⟨hC, ?_⟩
  unfold key
  rw [hM, read_some hC hD]
  have h65 : mark 65 = false := by decide
  have h97 : mark 97 = false := by decide
  have f65 : Gl.fold 65 = Gl.fold 97 := by decide
  simp [keyOf, List.filter_cons, h65, h97, f65]
/-- A, a mark, b and more is a name with the key of ab and more. -/
theorem spells (k : Nat) (hk : k < 7) {l : List UInt8} (hl : l.length ≤ 30) (hc : check (97 :: 98 :: l) = 0) :
    check (65 :: (marks7.getD k [] ++ 98 :: l)) = 0 ∧ key (65 :: (marks7.getD k [] ++ 98 :: l)) = key (97 :: 98 :: l) := by
  have : k = 0 ∨ k = 1 ∨ k = 2 ∨ k = 3 ∨ k = 4 ∨ k = 5 ∨ k = 6 := by omega
  rcases this with rfl | rfl | rfl | rfl | rfl | rfl | rfl
  · exact spells_mark (r := 32) (by decide) (by decide) (by decide) hl hc
  · exact spells_mark (r := 39) (by decide) (by decide) (by decide) hl hc
  · exact spells_mark (r := 45) (by decide) (by decide) (by decide) hl hc
  · exact spells_mark (r := 46) (by decide) (by decide) (by decide) hl hc
  · exact spells_mark (r := 40) (by decide) (by decide) (by decide) hl hc
  · exact spells_mark (r := 41) (by decide) (by decide) (by decide) hl hc
  · exact spells_none hl hc
end Nm
end Go.Proofs.YtlcjfphhogcenaaDoor
