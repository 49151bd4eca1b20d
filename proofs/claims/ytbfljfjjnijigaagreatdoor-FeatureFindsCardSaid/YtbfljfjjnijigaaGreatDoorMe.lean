/-
  The table of the small machine is what its compiler gives: part 0.
-/
import Derived.Test.YtbfljfjjnijigaaGreatDoorProg
import Derived.Test.YtbfljfjjnijigaaGreatDoorFtab
import Derived.Tactics
import Derived.Test.YtbfljfjjnijigaaGreatDoorMb
set_option linter.unusedVariables false
set_option linter.unusedSimpArgs false
section
namespace Go.Proofs.YtbfljfjjnijigaaGreatDoor
open Go
set_option maxRecDepth 1000000
theorem tc3 : cFn Tryz.prog Tryz.f3 0 = some i3 := by kernel_rfl
theorem tc6 : cFn Tryz.prog Tryz.f6 0 = some i6 := by kernel_rfl
theorem tc9 : cFn Tryz.prog Tryz.f9 0 = some i9 := by kernel_rfl
theorem tc12 : cFn Tryz.prog Tryz.f12 0 = some i12 := by kernel_rfl
theorem tc15 : cFn Tryz.prog Tryz.f15 0 = some i15 := by kernel_rfl
theorem tc18 : cFn Tryz.prog Tryz.f18 0 = some i18 := by kernel_rfl
theorem tc21 : cFn Tryz.prog Tryz.f21 0 = some i21 := by kernel_rfl
theorem tc24 : cFn Tryz.prog Tryz.f24 0 = some i24 := by kernel_rfl
theorem tc27 : cFn Tryz.prog Tryz.f27 0 = some i27 := by kernel_rfl
theorem tc30 : cFn Tryz.prog Tryz.f30 0 = some i30 := by kernel_rfl
theorem tc33 : cFn Tryz.prog Tryz.f33 0 = some i33 := by kernel_rfl
theorem tc36 : cFn Tryz.prog Tryz.f36 0 = some i36 := by kernel_rfl
theorem tc39 : cFn Tryz.prog Tryz.f39 2 = some i39 := by kernel_rfl
theorem tc42 : cFn Tryz.prog Tryz.f42 0 = some i42 := by kernel_rfl
theorem tc45 : cFn Tryz.prog Tryz.f45 0 = some i45 := by kernel_rfl
theorem tc48 : cFn Tryz.prog Tryz.f48 0 = some i48 := by kernel_rfl
theorem tc51 : cFn Tryz.prog Tryz.f51 0 = some i51 := by kernel_rfl
theorem tc54 : cFn Tryz.prog Tryz.f54 0 = some i54 := by kernel_rfl
theorem tc57 : cFn Tryz.prog Tryz.f57 0 = some i57 := by kernel_rfl
theorem tc60 : cFn Tryz.prog Tryz.f60 0 = some i60 := by kernel_rfl
theorem tc63 : cFn Tryz.prog Tryz.f63 0 = some i63 := by kernel_rfl
theorem tc66 : cFn Tryz.prog Tryz.f66 0 = some i66 := by kernel_rfl
theorem tc69 : cFn Tryz.prog Tryz.f69 0 = some i69 := by kernel_rfl
theorem tc72 : cFn Tryz.prog Tryz.f72 0 = some i72 := by kernel_rfl
theorem tc75 : cFn Tryz.prog Tryz.f75 0 = some i75 := by kernel_rfl
theorem tc79 : cFn Tryz.prog Tryz.f79 0 = some i79 := by kernel_rfl
theorem tc83 : cFn Tryz.prog Tryz.f83 0 = some i83 := by kernel_rfl
theorem tc86 : cFn Tryz.prog Tryz.f86 2 = some i86 := by kernel_rfl
theorem tc89 : cFn Tryz.prog Tryz.f89 0 = some i89 := by kernel_rfl
theorem tc92 : cFn Tryz.prog Tryz.f92 0 = some i92 := by kernel_rfl
theorem tc95 : cFn Tryz.prog Tryz.f95 0 = some i95 := by kernel_rfl
theorem tc98 : cFn Tryz.prog Tryz.f98 2 = some i98 := by kernel_rfl
theorem tc101 : cFn Tryz.prog Tryz.f101 0 = some i101 := by kernel_rfl
theorem tc104 : cFn Tryz.prog Tryz.f104 0 = some i104 := by kernel_rfl
theorem tc107 : cFn Tryz.prog Tryz.f107 2 = some i107 := by kernel_rfl
theorem tc110 : cFn Tryz.prog Tryz.f110 0 = some i110 := by kernel_rfl
theorem tc113 : cFn Tryz.prog Tryz.f113 2 = some i113 := by kernel_rfl
theorem tc116 : cFn Tryz.prog Tryz.f116 0 = some i116 := by kernel_rfl
theorem tc119 : cFn Tryz.prog Tryz.f119 0 = some i119 := by kernel_rfl
theorem tc123 : cFn Tryz.prog Tryz.f123 2 = some i123 := by kernel_rfl
theorem tc126 : cFn Tryz.prog Tryz.f126 2 = some i126 := by kernel_rfl
theorem tc129 : cFn Tryz.prog Tryz.f129 0 = some i129 := by kernel_rfl
theorem tc132 : cFn Tryz.prog Tryz.f132 0 = some i132 := by kernel_rfl
theorem tc135 : cFn Tryz.prog Tryz.f135 2 = some i135 := by kernel_rfl
theorem tc138 : cFn Tryz.prog Tryz.f138 2 = some i138 := by kernel_rfl
theorem tc141 : cFn Tryz.prog Tryz.f141 0 = some i141 := by kernel_rfl
theorem tc144 : cFn Tryz.prog Tryz.f144 2 = some i144 := by kernel_rfl
theorem tc151 : cFn Tryz.prog Tryz.f151 0 = some i151 := by kernel_rfl
theorem tc154 : cFn Tryz.prog Tryz.f154 2 = some i154 := by kernel_rfl
theorem tc157 : cFn Tryz.prog Tryz.f157 2 = some i157 := by kernel_rfl
theorem tc160 : cFn Tryz.prog Tryz.f160 2 = some i160 := by kernel_rfl
theorem tc163 : cFn Tryz.prog Tryz.f163 2 = some i163 := by kernel_rfl
theorem tc166 : cFn Tryz.prog Tryz.f166 2 = some i166 := by kernel_rfl
theorem tc171 : cFn Tryz.prog Tryz.f171 2 = some i171 := by kernel_rfl
theorem tc174 : cFn Tryz.prog Tryz.f174 2 = some i174 := by kernel_rfl
end Go.Proofs.YtbfljfjjnijigaaGreatDoor
end
section
namespace Go.Proofs.YtbfljfjjnijigaaGreatDoor
open Go
set_option maxRecDepth 1000000
theorem tc4 : cFn Tryz.prog Tryz.f4 0 = some i4 := by kernel_rfl
theorem tc7 : cFn Tryz.prog Tryz.f7 0 = some i7 := by kernel_rfl
theorem tc10 : cFn Tryz.prog Tryz.f10 0 = some i10 := by kernel_rfl
theorem tc13 : cFn Tryz.prog Tryz.f13 0 = some i13 := by kernel_rfl
theorem tc16 : cFn Tryz.prog Tryz.f16 0 = some i16 := by kernel_rfl
theorem tc19 : cFn Tryz.prog Tryz.f19 0 = some i19 := by kernel_rfl
theorem tc22 : cFn Tryz.prog Tryz.f22 2 = some i22 := by kernel_rfl
theorem tc25 : cFn Tryz.prog Tryz.f25 0 = some i25 := by kernel_rfl
theorem tc28 : cFn Tryz.prog Tryz.f28 0 = some i28 := by kernel_rfl
theorem tc31 : cFn Tryz.prog Tryz.f31 2 = some i31 := by kernel_rfl
theorem tc34 : cFn Tryz.prog Tryz.f34 0 = some i34 := by kernel_rfl
theorem tc37 : cFn Tryz.prog Tryz.f37 0 = some i37 := by kernel_rfl
theorem tc40 : cFn Tryz.prog Tryz.f40 2 = some i40 := by kernel_rfl
theorem tc43 : cFn Tryz.prog Tryz.f43 0 = some i43 := by kernel_rfl
theorem tc46 : cFn Tryz.prog Tryz.f46 0 = some i46 := by kernel_rfl
theorem tc49 : cFn Tryz.prog Tryz.f49 0 = some i49 := by kernel_rfl
theorem tc52 : cFn Tryz.prog Tryz.f52 2 = some i52 := by kernel_rfl
theorem tc55 : cFn Tryz.prog Tryz.f55 0 = some i55 := by kernel_rfl
theorem tc58 : cFn Tryz.prog Tryz.f58 2 = some i58 := by kernel_rfl
theorem tc61 : cFn Tryz.prog Tryz.f61 0 = some i61 := by kernel_rfl
theorem tc64 : cFn Tryz.prog Tryz.f64 0 = some i64 := by kernel_rfl
theorem tc67 : cFn Tryz.prog Tryz.f67 0 = some i67 := by kernel_rfl
theorem tc70 : cFn Tryz.prog Tryz.f70 0 = some i70 := by kernel_rfl
theorem tc73 : cFn Tryz.prog Tryz.f73 0 = some i73 := by kernel_rfl
theorem tc76 : cFn Tryz.prog Tryz.f76 0 = some i76 := by kernel_rfl
theorem tc81 : cFn Tryz.prog Tryz.f81 0 = some i81 := by kernel_rfl
theorem tc84 : cFn Tryz.prog Tryz.f84 0 = some i84 := by kernel_rfl
theorem tc87 : cFn Tryz.prog Tryz.f87 0 = some i87 := by kernel_rfl
theorem tc90 : cFn Tryz.prog Tryz.f90 0 = some i90 := by kernel_rfl
theorem tc93 : cFn Tryz.prog Tryz.f93 0 = some i93 := by kernel_rfl
theorem tc96 : cFn Tryz.prog Tryz.f96 0 = some i96 := by kernel_rfl
theorem tc99 : cFn Tryz.prog Tryz.f99 2 = some i99 := by kernel_rfl
theorem tc102 : cFn Tryz.prog Tryz.f102 0 = some i102 := by kernel_rfl
theorem tc105 : cFn Tryz.prog Tryz.f105 0 = some i105 := by kernel_rfl
theorem tc108 : cFn Tryz.prog Tryz.f108 0 = some i108 := by kernel_rfl
theorem tc111 : cFn Tryz.prog Tryz.f111 0 = some i111 := by kernel_rfl
theorem tc114 : cFn Tryz.prog Tryz.f114 2 = some i114 := by kernel_rfl
theorem tc117 : cFn Tryz.prog Tryz.f117 2 = some i117 := by kernel_rfl
theorem tc121 : cFn Tryz.prog Tryz.f121 2 = some i121 := by kernel_rfl
theorem tc124 : cFn Tryz.prog Tryz.f124 2 = some i124 := by kernel_rfl
theorem tc127 : cFn Tryz.prog Tryz.f127 2 = some i127 := by kernel_rfl
theorem tc130 : cFn Tryz.prog Tryz.f130 0 = some i130 := by kernel_rfl
theorem tc133 : cFn Tryz.prog Tryz.f133 2 = some i133 := by kernel_rfl
theorem tc136 : cFn Tryz.prog Tryz.f136 2 = some i136 := by kernel_rfl
theorem tc139 : cFn Tryz.prog Tryz.f139 2 = some i139 := by kernel_rfl
theorem tc142 : cFn Tryz.prog Tryz.f142 2 = some i142 := by kernel_rfl
theorem tc145 : cFn Tryz.prog Tryz.f145 2 = some i145 := by kernel_rfl
theorem tc152 : cFn Tryz.prog Tryz.f152 0 = some i152 := by kernel_rfl
theorem tc155 : cFn Tryz.prog Tryz.f155 0 = some i155 := by kernel_rfl
theorem tc158 : cFn Tryz.prog Tryz.f158 2 = some i158 := by kernel_rfl
theorem tc161 : cFn Tryz.prog Tryz.f161 2 = some i161 := by kernel_rfl
theorem tc164 : cFn Tryz.prog Tryz.f164 2 = some i164 := by kernel_rfl
theorem tc167 : cFn Tryz.prog Tryz.f167 2 = some i167 := by kernel_rfl
theorem tc172 : cFn Tryz.prog Tryz.f172 2 = some i172 := by kernel_rfl
theorem tc175 : cFn Tryz.prog Tryz.f175 2 = some i175 := by kernel_rfl
end Go.Proofs.YtbfljfjjnijigaaGreatDoor
end
section
namespace Go.Proofs.YtbfljfjjnijigaaGreatDoor
open Go
set_option maxRecDepth 1000000
theorem tc5 : cFn Tryz.prog Tryz.f5 0 = some i5 := by kernel_rfl
theorem tc8 : cFn Tryz.prog Tryz.f8 0 = some i8 := by kernel_rfl
theorem tc11 : cFn Tryz.prog Tryz.f11 0 = some i11 := by kernel_rfl
theorem tc14 : cFn Tryz.prog Tryz.f14 0 = some i14 := by kernel_rfl
theorem tc17 : cFn Tryz.prog Tryz.f17 0 = some i17 := by kernel_rfl
theorem tc20 : cFn Tryz.prog Tryz.f20 0 = some i20 := by kernel_rfl
theorem tc23 : cFn Tryz.prog Tryz.f23 0 = some i23 := by kernel_rfl
theorem tc26 : cFn Tryz.prog Tryz.f26 0 = some i26 := by kernel_rfl
theorem tc29 : cFn Tryz.prog Tryz.f29 0 = some i29 := by kernel_rfl
theorem tc32 : cFn Tryz.prog Tryz.f32 0 = some i32 := by kernel_rfl
theorem tc35 : cFn Tryz.prog Tryz.f35 0 = some i35 := by kernel_rfl
theorem tc38 : cFn Tryz.prog Tryz.f38 0 = some i38 := by kernel_rfl
theorem tc41 : cFn Tryz.prog Tryz.f41 0 = some i41 := by kernel_rfl
theorem tc44 : cFn Tryz.prog Tryz.f44 0 = some i44 := by kernel_rfl
theorem tc47 : cFn Tryz.prog Tryz.f47 0 = some i47 := by kernel_rfl
theorem tc50 : cFn Tryz.prog Tryz.f50 0 = some i50 := by kernel_rfl
theorem tc53 : cFn Tryz.prog Tryz.f53 0 = some i53 := by kernel_rfl
theorem tc56 : cFn Tryz.prog Tryz.f56 0 = some i56 := by kernel_rfl
theorem tc59 : cFn Tryz.prog Tryz.f59 2 = some i59 := by kernel_rfl
theorem tc62 : cFn Tryz.prog Tryz.f62 0 = some i62 := by kernel_rfl
theorem tc65 : cFn Tryz.prog Tryz.f65 0 = some i65 := by kernel_rfl
theorem tc68 : cFn Tryz.prog Tryz.f68 0 = some i68 := by kernel_rfl
theorem tc71 : cFn Tryz.prog Tryz.f71 1 = some i71 := by kernel_rfl
theorem tc74 : cFn Tryz.prog Tryz.f74 0 = some i74 := by kernel_rfl
theorem tc77 : cFn Tryz.prog Tryz.f77 0 = some i77 := by kernel_rfl
theorem tc82 : cFn Tryz.prog Tryz.f82 0 = some i82 := by kernel_rfl
theorem tc85 : cFn Tryz.prog Tryz.f85 1 = some i85 := by kernel_rfl
theorem tc88 : cFn Tryz.prog Tryz.f88 0 = some i88 := by kernel_rfl
theorem tc91 : cFn Tryz.prog Tryz.f91 0 = some i91 := by kernel_rfl
theorem tc94 : cFn Tryz.prog Tryz.f94 0 = some i94 := by kernel_rfl
theorem tc97 : cFn Tryz.prog Tryz.f97 0 = some i97 := by kernel_rfl
theorem tc100 : cFn Tryz.prog Tryz.f100 0 = some i100 := by kernel_rfl
theorem tc103 : cFn Tryz.prog Tryz.f103 0 = some i103 := by kernel_rfl
theorem tc106 : cFn Tryz.prog Tryz.f106 0 = some i106 := by kernel_rfl
theorem tc109 : cFn Tryz.prog Tryz.f109 0 = some i109 := by kernel_rfl
theorem tc112 : cFn Tryz.prog Tryz.f112 0 = some i112 := by kernel_rfl
theorem tc115 : cFn Tryz.prog Tryz.f115 0 = some i115 := by kernel_rfl
theorem tc118 : cFn Tryz.prog Tryz.f118 0 = some i118 := by kernel_rfl
theorem tc122 : cFn Tryz.prog Tryz.f122 2 = some i122 := by kernel_rfl
theorem tc125 : cFn Tryz.prog Tryz.f125 2 = some i125 := by kernel_rfl
theorem tc128 : cFn Tryz.prog Tryz.f128 2 = some i128 := by kernel_rfl
theorem tc131 : cFn Tryz.prog Tryz.f131 0 = some i131 := by kernel_rfl
theorem tc134 : cFn Tryz.prog Tryz.f134 0 = some i134 := by kernel_rfl
theorem tc137 : cFn Tryz.prog Tryz.f137 2 = some i137 := by kernel_rfl
theorem tc140 : cFn Tryz.prog Tryz.f140 2 = some i140 := by kernel_rfl
theorem tc143 : cFn Tryz.prog Tryz.f143 2 = some i143 := by kernel_rfl
theorem tc150 : cFn Tryz.prog Tryz.f150 2 = some i150 := by kernel_rfl
theorem tc153 : cFn Tryz.prog Tryz.f153 2 = some i153 := by kernel_rfl
theorem tc156 : cFn Tryz.prog Tryz.f156 0 = some i156 := by kernel_rfl
theorem tc159 : cFn Tryz.prog Tryz.f159 2 = some i159 := by kernel_rfl
theorem tc162 : cFn Tryz.prog Tryz.f162 2 = some i162 := by kernel_rfl
theorem tc165 : cFn Tryz.prog Tryz.f165 2 = some i165 := by kernel_rfl
theorem tc170 : cFn Tryz.prog Tryz.f170 2 = some i170 := by kernel_rfl
theorem tc173 : cFn Tryz.prog Tryz.f173 2 = some i173 := by kernel_rfl
end Go.Proofs.YtbfljfjjnijigaaGreatDoor
end
section
namespace Go.Proofs.YtbfljfjjnijigaaGreatDoor
open Go
set_option maxRecDepth 1000000
theorem bif_one {f k : Nat} {i j : IFn} (h : (bif Nat.beq f k then some i else none) = some j) : f = k ∧ i = j := by
  cases hc : Nat.beq f k
  · rw [hc] at h
    cases h
  · rw [hc] at h
    exact ⟨Nat.eq_of_beq_eq_true hc, Option.some.inj h⟩
theorem bif_two {c : Bool} {a b : Option IFn} {j : IFn} (h : (bif c then a else b) = some j) : a = some j ∨ b = some j := by
  cases c
  · exact .inr h
  · exact .inl h
theorem tab_ok : TabOK Tryz.prog Ftab := by
  intro f i h
  unfold Ftab at h
  rcases bif_two h with h | h
  · rcases bif_two h with h | h
    · rcases bif_two h with h | h
      · rcases bif_two h with h | h
        · rcases bif_two h with h | h
          · rcases bif_two h with h | h
            · rcases bif_two h with h | h
              · obtain ⟨rfl, rfl⟩ := bif_one h
                exact ⟨_, Tryz.func3, tc3⟩
              · obtain ⟨rfl, rfl⟩ := bif_one h
                exact ⟨_, Tryz.func4, tc4⟩
            · rcases bif_two h with h | h
              · obtain ⟨rfl, rfl⟩ := bif_one h
                exact ⟨_, Tryz.func5, tc5⟩
              · rcases bif_two h with h | h
                · obtain ⟨rfl, rfl⟩ := bif_one h
                  exact ⟨_, Tryz.func6, tc6⟩
                · obtain ⟨rfl, rfl⟩ := bif_one h
                  exact ⟨_, Tryz.func7, tc7⟩
          · rcases bif_two h with h | h
            · rcases bif_two h with h | h
              · obtain ⟨rfl, rfl⟩ := bif_one h
                exact ⟨_, Tryz.func8, tc8⟩
              · obtain ⟨rfl, rfl⟩ := bif_one h
                exact ⟨_, Tryz.func9, tc9⟩
            · rcases bif_two h with h | h
              · obtain ⟨rfl, rfl⟩ := bif_one h
                exact ⟨_, Tryz.func10, tc10⟩
              · rcases bif_two h with h | h
                · obtain ⟨rfl, rfl⟩ := bif_one h
                  exact ⟨_, Tryz.func11, tc11⟩
                · obtain ⟨rfl, rfl⟩ := bif_one h
                  exact ⟨_, Tryz.func12, tc12⟩
        · rcases bif_two h with h | h
          · rcases bif_two h with h | h
            · rcases bif_two h with h | h
              · obtain ⟨rfl, rfl⟩ := bif_one h
                exact ⟨_, Tryz.func13, tc13⟩
              · obtain ⟨rfl, rfl⟩ := bif_one h
                exact ⟨_, Tryz.func14, tc14⟩
            · rcases bif_two h with h | h
              · obtain ⟨rfl, rfl⟩ := bif_one h
                exact ⟨_, Tryz.func15, tc15⟩
              · rcases bif_two h with h | h
                · obtain ⟨rfl, rfl⟩ := bif_one h
                  exact ⟨_, Tryz.func16, tc16⟩
                · obtain ⟨rfl, rfl⟩ := bif_one h
                  exact ⟨_, Tryz.func17, tc17⟩
          · rcases bif_two h with h | h
            · rcases bif_two h with h | h
              · obtain ⟨rfl, rfl⟩ := bif_one h
                exact ⟨_, Tryz.func18, tc18⟩
              · obtain ⟨rfl, rfl⟩ := bif_one h
                exact ⟨_, Tryz.func19, tc19⟩
            · rcases bif_two h with h | h
              · obtain ⟨rfl, rfl⟩ := bif_one h
                exact ⟨_, Tryz.func20, tc20⟩
              · rcases bif_two h with h | h
                · obtain ⟨rfl, rfl⟩ := bif_one h
                  exact ⟨_, Tryz.func21, tc21⟩
                · obtain ⟨rfl, rfl⟩ := bif_one h
                  exact ⟨_, Tryz.func22, tc22⟩
      · rcases bif_two h with h | h
        · rcases bif_two h with h | h
          · rcases bif_two h with h | h
            · rcases bif_two h with h | h
              · obtain ⟨rfl, rfl⟩ := bif_one h
                exact ⟨_, Tryz.func23, tc23⟩
              · obtain ⟨rfl, rfl⟩ := bif_one h
                exact ⟨_, Tryz.func24, tc24⟩
            · rcases bif_two h with h | h
              · obtain ⟨rfl, rfl⟩ := bif_one h
                exact ⟨_, Tryz.func25, tc25⟩
              · rcases bif_two h with h | h
                · obtain ⟨rfl, rfl⟩ := bif_one h
                  exact ⟨_, Tryz.func26, tc26⟩
                · obtain ⟨rfl, rfl⟩ := bif_one h
                  exact ⟨_, Tryz.func27, tc27⟩
          · rcases bif_two h with h | h
            · rcases bif_two h with h | h
              · obtain ⟨rfl, rfl⟩ := bif_one h
                exact ⟨_, Tryz.func28, tc28⟩
              · obtain ⟨rfl, rfl⟩ := bif_one h
                exact ⟨_, Tryz.func29, tc29⟩
            · rcases bif_two h with h | h
              · obtain ⟨rfl, rfl⟩ := bif_one h
                exact ⟨_, Tryz.func30, tc30⟩
              · rcases bif_two h with h | h
                · obtain ⟨rfl, rfl⟩ := bif_one h
                  exact ⟨_, Tryz.func31, tc31⟩
                · obtain ⟨rfl, rfl⟩ := bif_one h
                  exact ⟨_, Tryz.func32, tc32⟩
        · rcases bif_two h with h | h
          · rcases bif_two h with h | h
            · rcases bif_two h with h | h
              · obtain ⟨rfl, rfl⟩ := bif_one h
                exact ⟨_, Tryz.func33, tc33⟩
              · obtain ⟨rfl, rfl⟩ := bif_one h
                exact ⟨_, Tryz.func34, tc34⟩
            · rcases bif_two h with h | h
              · obtain ⟨rfl, rfl⟩ := bif_one h
                exact ⟨_, Tryz.func35, tc35⟩
              · rcases bif_two h with h | h
                · obtain ⟨rfl, rfl⟩ := bif_one h
                  exact ⟨_, Tryz.func36, tc36⟩
                · obtain ⟨rfl, rfl⟩ := bif_one h
                  exact ⟨_, Tryz.func37, tc37⟩
          · rcases bif_two h with h | h
            · rcases bif_two h with h | h
              · obtain ⟨rfl, rfl⟩ := bif_one h
                exact ⟨_, Tryz.func38, tc38⟩
              · rcases bif_two h with h | h
                · obtain ⟨rfl, rfl⟩ := bif_one h
                  exact ⟨_, Tryz.func39, tc39⟩
                · obtain ⟨rfl, rfl⟩ := bif_one h
                  exact ⟨_, Tryz.func40, tc40⟩
            · rcases bif_two h with h | h
              · obtain ⟨rfl, rfl⟩ := bif_one h
                exact ⟨_, Tryz.func41, tc41⟩
              · rcases bif_two h with h | h
                · obtain ⟨rfl, rfl⟩ := bif_one h
                  exact ⟨_, Tryz.func42, tc42⟩
                · obtain ⟨rfl, rfl⟩ := bif_one h
                  exact ⟨_, Tryz.func43, tc43⟩
    · rcases bif_two h with h | h
      · rcases bif_two h with h | h
        · rcases bif_two h with h | h
          · rcases bif_two h with h | h
            · rcases bif_two h with h | h
              · obtain ⟨rfl, rfl⟩ := bif_one h
                exact ⟨_, Tryz.func44, tc44⟩
              · obtain ⟨rfl, rfl⟩ := bif_one h
                exact ⟨_, Tryz.func45, tc45⟩
            · rcases bif_two h with h | h
              · obtain ⟨rfl, rfl⟩ := bif_one h
                exact ⟨_, Tryz.func46, tc46⟩
              · rcases bif_two h with h | h
                · obtain ⟨rfl, rfl⟩ := bif_one h
                  exact ⟨_, Tryz.func47, tc47⟩
                · obtain ⟨rfl, rfl⟩ := bif_one h
                  exact ⟨_, Tryz.func48, tc48⟩
          · rcases bif_two h with h | h
            · rcases bif_two h with h | h
              · obtain ⟨rfl, rfl⟩ := bif_one h
                exact ⟨_, Tryz.func49, tc49⟩
              · obtain ⟨rfl, rfl⟩ := bif_one h
                exact ⟨_, Tryz.func50, tc50⟩
            · rcases bif_two h with h | h
              · obtain ⟨rfl, rfl⟩ := bif_one h
                exact ⟨_, Tryz.func51, tc51⟩
              · rcases bif_two h with h | h
                · obtain ⟨rfl, rfl⟩ := bif_one h
                  exact ⟨_, Tryz.func52, tc52⟩
                · obtain ⟨rfl, rfl⟩ := bif_one h
                  exact ⟨_, Tryz.func53, tc53⟩
        · rcases bif_two h with h | h
          · rcases bif_two h with h | h
            · rcases bif_two h with h | h
              · obtain ⟨rfl, rfl⟩ := bif_one h
                exact ⟨_, Tryz.func54, tc54⟩
              · obtain ⟨rfl, rfl⟩ := bif_one h
                exact ⟨_, Tryz.func55, tc55⟩
            · rcases bif_two h with h | h
              · obtain ⟨rfl, rfl⟩ := bif_one h
                exact ⟨_, Tryz.func56, tc56⟩
              · rcases bif_two h with h | h
                · obtain ⟨rfl, rfl⟩ := bif_one h
                  exact ⟨_, Tryz.func57, tc57⟩
                · obtain ⟨rfl, rfl⟩ := bif_one h
                  exact ⟨_, Tryz.func58, tc58⟩
          · rcases bif_two h with h | h
            · rcases bif_two h with h | h
              · obtain ⟨rfl, rfl⟩ := bif_one h
                exact ⟨_, Tryz.func59, tc59⟩
              · obtain ⟨rfl, rfl⟩ := bif_one h
                exact ⟨_, Tryz.func60, tc60⟩
            · rcases bif_two h with h | h
              · obtain ⟨rfl, rfl⟩ := bif_one h
                exact ⟨_, Tryz.func61, tc61⟩
              · rcases bif_two h with h | h
                · obtain ⟨rfl, rfl⟩ := bif_one h
                  exact ⟨_, Tryz.func62, tc62⟩
                · obtain ⟨rfl, rfl⟩ := bif_one h
                  exact ⟨_, Tryz.func63, tc63⟩
      · rcases bif_two h with h | h
        · rcases bif_two h with h | h
          · rcases bif_two h with h | h
            · rcases bif_two h with h | h
              · obtain ⟨rfl, rfl⟩ := bif_one h
                exact ⟨_, Tryz.func64, tc64⟩
              · obtain ⟨rfl, rfl⟩ := bif_one h
                exact ⟨_, Tryz.func65, tc65⟩
            · rcases bif_two h with h | h
              · obtain ⟨rfl, rfl⟩ := bif_one h
                exact ⟨_, Tryz.func66, tc66⟩
              · rcases bif_two h with h | h
                · obtain ⟨rfl, rfl⟩ := bif_one h
                  exact ⟨_, Tryz.func67, tc67⟩
                · obtain ⟨rfl, rfl⟩ := bif_one h
                  exact ⟨_, Tryz.func68, tc68⟩
          · rcases bif_two h with h | h
            · rcases bif_two h with h | h
              · obtain ⟨rfl, rfl⟩ := bif_one h
                exact ⟨_, Tryz.func69, tc69⟩
              · obtain ⟨rfl, rfl⟩ := bif_one h
                exact ⟨_, Tryz.func70, tc70⟩
            · rcases bif_two h with h | h
              · obtain ⟨rfl, rfl⟩ := bif_one h
                exact ⟨_, Tryz.func71, tc71⟩
              · rcases bif_two h with h | h
                · obtain ⟨rfl, rfl⟩ := bif_one h
                  exact ⟨_, Tryz.func72, tc72⟩
                · obtain ⟨rfl, rfl⟩ := bif_one h
                  exact ⟨_, Tryz.func73, tc73⟩
        · rcases bif_two h with h | h
          · rcases bif_two h with h | h
            · rcases bif_two h with h | h
              · obtain ⟨rfl, rfl⟩ := bif_one h
                exact ⟨_, Tryz.func74, tc74⟩
              · obtain ⟨rfl, rfl⟩ := bif_one h
                exact ⟨_, Tryz.func75, tc75⟩
            · rcases bif_two h with h | h
              · obtain ⟨rfl, rfl⟩ := bif_one h
                exact ⟨_, Tryz.func76, tc76⟩
              · rcases bif_two h with h | h
                · obtain ⟨rfl, rfl⟩ := bif_one h
                  exact ⟨_, Tryz.func77, tc77⟩
                · obtain ⟨rfl, rfl⟩ := bif_one h
                  exact ⟨_, Tryz.func79, tc79⟩
          · rcases bif_two h with h | h
            · rcases bif_two h with h | h
              · obtain ⟨rfl, rfl⟩ := bif_one h
                exact ⟨_, Tryz.func81, tc81⟩
              · rcases bif_two h with h | h
                · obtain ⟨rfl, rfl⟩ := bif_one h
                  exact ⟨_, Tryz.func82, tc82⟩
                · obtain ⟨rfl, rfl⟩ := bif_one h
                  exact ⟨_, Tryz.func83, tc83⟩
            · rcases bif_two h with h | h
              · obtain ⟨rfl, rfl⟩ := bif_one h
                exact ⟨_, Tryz.func84, tc84⟩
              · rcases bif_two h with h | h
                · obtain ⟨rfl, rfl⟩ := bif_one h
                  exact ⟨_, Tryz.func85, tc85⟩
                · obtain ⟨rfl, rfl⟩ := bif_one h
                  exact ⟨_, Tryz.func86, tc86⟩
  · rcases bif_two h with h | h
    · rcases bif_two h with h | h
      · rcases bif_two h with h | h
        · rcases bif_two h with h | h
          · rcases bif_two h with h | h
            · rcases bif_two h with h | h
              · obtain ⟨rfl, rfl⟩ := bif_one h
                exact ⟨_, Tryz.func87, tc87⟩
              · obtain ⟨rfl, rfl⟩ := bif_one h
                exact ⟨_, Tryz.func88, tc88⟩
            · rcases bif_two h with h | h
              · obtain ⟨rfl, rfl⟩ := bif_one h
                exact ⟨_, Tryz.func89, tc89⟩
              · rcases bif_two h with h | h
                · obtain ⟨rfl, rfl⟩ := bif_one h
                  exact ⟨_, Tryz.func90, tc90⟩
                · obtain ⟨rfl, rfl⟩ := bif_one h
                  exact ⟨_, Tryz.func91, tc91⟩
          · rcases bif_two h with h | h
            · rcases bif_two h with h | h
              · obtain ⟨rfl, rfl⟩ := bif_one h
                exact ⟨_, Tryz.func92, tc92⟩
              · obtain ⟨rfl, rfl⟩ := bif_one h
                exact ⟨_, Tryz.func93, tc93⟩
            · rcases bif_two h with h | h
              · obtain ⟨rfl, rfl⟩ := bif_one h
                exact ⟨_, Tryz.func94, tc94⟩
              · rcases bif_two h with h | h
                · obtain ⟨rfl, rfl⟩ := bif_one h
                  exact ⟨_, Tryz.func95, tc95⟩
                · obtain ⟨rfl, rfl⟩ := bif_one h
                  exact ⟨_, Tryz.func96, tc96⟩
        · rcases bif_two h with h | h
          · rcases bif_two h with h | h
            · rcases bif_two h with h | h
              · obtain ⟨rfl, rfl⟩ := bif_one h
                exact ⟨_, Tryz.func97, tc97⟩
              · obtain ⟨rfl, rfl⟩ := bif_one h
                exact ⟨_, Tryz.func98, tc98⟩
            · rcases bif_two h with h | h
              · obtain ⟨rfl, rfl⟩ := bif_one h
                exact ⟨_, Tryz.func99, tc99⟩
              · rcases bif_two h with h | h
                · obtain ⟨rfl, rfl⟩ := bif_one h
                  exact ⟨_, Tryz.func100, tc100⟩
                · obtain ⟨rfl, rfl⟩ := bif_one h
                  exact ⟨_, Tryz.func101, tc101⟩
          · rcases bif_two h with h | h
            · rcases bif_two h with h | h
              · obtain ⟨rfl, rfl⟩ := bif_one h
                exact ⟨_, Tryz.func102, tc102⟩
              · obtain ⟨rfl, rfl⟩ := bif_one h
                exact ⟨_, Tryz.func103, tc103⟩
            · rcases bif_two h with h | h
              · obtain ⟨rfl, rfl⟩ := bif_one h
                exact ⟨_, Tryz.func104, tc104⟩
              · rcases bif_two h with h | h
                · obtain ⟨rfl, rfl⟩ := bif_one h
                  exact ⟨_, Tryz.func105, tc105⟩
                · obtain ⟨rfl, rfl⟩ := bif_one h
                  exact ⟨_, Tryz.func106, tc106⟩
      · rcases bif_two h with h | h
        · rcases bif_two h with h | h
          · rcases bif_two h with h | h
            · rcases bif_two h with h | h
              · obtain ⟨rfl, rfl⟩ := bif_one h
                exact ⟨_, Tryz.func107, tc107⟩
              · obtain ⟨rfl, rfl⟩ := bif_one h
                exact ⟨_, Tryz.func108, tc108⟩
            · rcases bif_two h with h | h
              · obtain ⟨rfl, rfl⟩ := bif_one h
                exact ⟨_, Tryz.func109, tc109⟩
              · rcases bif_two h with h | h
                · obtain ⟨rfl, rfl⟩ := bif_one h
                  exact ⟨_, Tryz.func110, tc110⟩
                · obtain ⟨rfl, rfl⟩ := bif_one h
                  exact ⟨_, Tryz.func111, tc111⟩
          · rcases bif_two h with h | h
            · rcases bif_two h with h | h
              · obtain ⟨rfl, rfl⟩ := bif_one h
                exact ⟨_, Tryz.func112, tc112⟩
              · obtain ⟨rfl, rfl⟩ := bif_one h
                exact ⟨_, Tryz.func113, tc113⟩
            · rcases bif_two h with h | h
              · obtain ⟨rfl, rfl⟩ := bif_one h
                exact ⟨_, Tryz.func114, tc114⟩
              · rcases bif_two h with h | h
                · obtain ⟨rfl, rfl⟩ := bif_one h
                  exact ⟨_, Tryz.func115, tc115⟩
                · obtain ⟨rfl, rfl⟩ := bif_one h
                  exact ⟨_, Tryz.func116, tc116⟩
        · rcases bif_two h with h | h
          · rcases bif_two h with h | h
            · rcases bif_two h with h | h
              · obtain ⟨rfl, rfl⟩ := bif_one h
                exact ⟨_, Tryz.func117, tc117⟩
              · obtain ⟨rfl, rfl⟩ := bif_one h
                exact ⟨_, Tryz.func118, tc118⟩
            · rcases bif_two h with h | h
              · obtain ⟨rfl, rfl⟩ := bif_one h
                exact ⟨_, Tryz.func119, tc119⟩
              · rcases bif_two h with h | h
                · obtain ⟨rfl, rfl⟩ := bif_one h
                  exact ⟨_, Tryz.func121, tc121⟩
                · obtain ⟨rfl, rfl⟩ := bif_one h
                  exact ⟨_, Tryz.func122, tc122⟩
          · rcases bif_two h with h | h
            · rcases bif_two h with h | h
              · obtain ⟨rfl, rfl⟩ := bif_one h
                exact ⟨_, Tryz.func123, tc123⟩
              · rcases bif_two h with h | h
                · obtain ⟨rfl, rfl⟩ := bif_one h
                  exact ⟨_, Tryz.func124, tc124⟩
                · obtain ⟨rfl, rfl⟩ := bif_one h
                  exact ⟨_, Tryz.func125, tc125⟩
            · rcases bif_two h with h | h
              · obtain ⟨rfl, rfl⟩ := bif_one h
                exact ⟨_, Tryz.func126, tc126⟩
              · rcases bif_two h with h | h
                · obtain ⟨rfl, rfl⟩ := bif_one h
                  exact ⟨_, Tryz.func127, tc127⟩
                · obtain ⟨rfl, rfl⟩ := bif_one h
                  exact ⟨_, Tryz.func128, tc128⟩
    · rcases bif_two h with h | h
      · rcases bif_two h with h | h
        · rcases bif_two h with h | h
          · rcases bif_two h with h | h
            · rcases bif_two h with h | h
              · obtain ⟨rfl, rfl⟩ := bif_one h
                exact ⟨_, Tryz.func129, tc129⟩
              · obtain ⟨rfl, rfl⟩ := bif_one h
                exact ⟨_, Tryz.func130, tc130⟩
            · rcases bif_two h with h | h
              · obtain ⟨rfl, rfl⟩ := bif_one h
                exact ⟨_, Tryz.func131, tc131⟩
              · rcases bif_two h with h | h
                · obtain ⟨rfl, rfl⟩ := bif_one h
                  exact ⟨_, Tryz.func132, tc132⟩
                · obtain ⟨rfl, rfl⟩ := bif_one h
                  exact ⟨_, Tryz.func133, tc133⟩
          · rcases bif_two h with h | h
            · rcases bif_two h with h | h
              · obtain ⟨rfl, rfl⟩ := bif_one h
                exact ⟨_, Tryz.func134, tc134⟩
              · obtain ⟨rfl, rfl⟩ := bif_one h
                exact ⟨_, Tryz.func135, tc135⟩
            · rcases bif_two h with h | h
              · obtain ⟨rfl, rfl⟩ := bif_one h
                exact ⟨_, Tryz.func136, tc136⟩
              · rcases bif_two h with h | h
                · obtain ⟨rfl, rfl⟩ := bif_one h
                  exact ⟨_, Tryz.func137, tc137⟩
                · obtain ⟨rfl, rfl⟩ := bif_one h
                  exact ⟨_, Tryz.func138, tc138⟩
        · rcases bif_two h with h | h
          · rcases bif_two h with h | h
            · rcases bif_two h with h | h
              · obtain ⟨rfl, rfl⟩ := bif_one h
                exact ⟨_, Tryz.func139, tc139⟩
              · obtain ⟨rfl, rfl⟩ := bif_one h
                exact ⟨_, Tryz.func140, tc140⟩
            · rcases bif_two h with h | h
              · obtain ⟨rfl, rfl⟩ := bif_one h
                exact ⟨_, Tryz.func141, tc141⟩
              · rcases bif_two h with h | h
                · obtain ⟨rfl, rfl⟩ := bif_one h
                  exact ⟨_, Tryz.func142, tc142⟩
                · obtain ⟨rfl, rfl⟩ := bif_one h
                  exact ⟨_, Tryz.func143, tc143⟩
          · rcases bif_two h with h | h
            · rcases bif_two h with h | h
              · obtain ⟨rfl, rfl⟩ := bif_one h
                exact ⟨_, Tryz.func144, tc144⟩
              · obtain ⟨rfl, rfl⟩ := bif_one h
                exact ⟨_, Tryz.func145, tc145⟩
            · rcases bif_two h with h | h
              · obtain ⟨rfl, rfl⟩ := bif_one h
                exact ⟨_, Tryz.func150, tc150⟩
              · rcases bif_two h with h | h
                · obtain ⟨rfl, rfl⟩ := bif_one h
                  exact ⟨_, Tryz.func151, tc151⟩
                · obtain ⟨rfl, rfl⟩ := bif_one h
                  exact ⟨_, Tryz.func152, tc152⟩
      · rcases bif_two h with h | h
        · rcases bif_two h with h | h
          · rcases bif_two h with h | h
            · rcases bif_two h with h | h
              · obtain ⟨rfl, rfl⟩ := bif_one h
                exact ⟨_, Tryz.func153, tc153⟩
              · obtain ⟨rfl, rfl⟩ := bif_one h
                exact ⟨_, Tryz.func154, tc154⟩
            · rcases bif_two h with h | h
              · obtain ⟨rfl, rfl⟩ := bif_one h
                exact ⟨_, Tryz.func155, tc155⟩
              · rcases bif_two h with h | h
                · obtain ⟨rfl, rfl⟩ := bif_one h
                  exact ⟨_, Tryz.func156, tc156⟩
                · obtain ⟨rfl, rfl⟩ := bif_one h
                  exact ⟨_, Tryz.func157, tc157⟩
          · rcases bif_two h with h | h
            · rcases bif_two h with h | h
              · obtain ⟨rfl, rfl⟩ := bif_one h
                exact ⟨_, Tryz.func158, tc158⟩
              · obtain ⟨rfl, rfl⟩ := bif_one h
                exact ⟨_, Tryz.func159, tc159⟩
            · rcases bif_two h with h | h
              · obtain ⟨rfl, rfl⟩ := bif_one h
                exact ⟨_, Tryz.func160, tc160⟩
              · rcases bif_two h with h | h
                · obtain ⟨rfl, rfl⟩ := bif_one h
                  exact ⟨_, Tryz.func161, tc161⟩
                · obtain ⟨rfl, rfl⟩ := bif_one h
                  exact ⟨_, Tryz.func162, tc162⟩
        · rcases bif_two h with h | h
          · rcases bif_two h with h | h
            · rcases bif_two h with h | h
              · obtain ⟨rfl, rfl⟩ := bif_one h
                exact ⟨_, Tryz.func163, tc163⟩
              · obtain ⟨rfl, rfl⟩ := bif_one h
                exact ⟨_, Tryz.func164, tc164⟩
            · rcases bif_two h with h | h
              · obtain ⟨rfl, rfl⟩ := bif_one h
                exact ⟨_, Tryz.func165, tc165⟩
              · rcases bif_two h with h | h
                · obtain ⟨rfl, rfl⟩ := bif_one h
                  exact ⟨_, Tryz.func166, tc166⟩
                · obtain ⟨rfl, rfl⟩ := bif_one h
                  exact ⟨_, Tryz.func167, tc167⟩
          · rcases bif_two h with h | h
            · rcases bif_two h with h | h
              · obtain ⟨rfl, rfl⟩ := bif_one h
                exact ⟨_, Tryz.func170, tc170⟩
              · rcases bif_two h with h | h
                · obtain ⟨rfl, rfl⟩ := bif_one h
                  exact ⟨_, Tryz.func171, tc171⟩
                · obtain ⟨rfl, rfl⟩ := bif_one h
                  exact ⟨_, Tryz.func172, tc172⟩
            · rcases bif_two h with h | h
              · obtain ⟨rfl, rfl⟩ := bif_one h
                exact ⟨_, Tryz.func173, tc173⟩
              · rcases bif_two h with h | h
                · obtain ⟨rfl, rfl⟩ := bif_one h
                  exact ⟨_, Tryz.func174, tc174⟩
                · obtain ⟨rfl, rfl⟩ := bif_one h
                  exact ⟨_, Tryz.func175, tc175⟩
end Go.Proofs.YtbfljfjjnijigaaGreatDoor
end
