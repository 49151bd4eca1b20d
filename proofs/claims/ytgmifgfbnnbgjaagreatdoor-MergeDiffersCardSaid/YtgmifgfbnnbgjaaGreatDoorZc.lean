/-
  A part of the proof: the small machine, its simulation and its walks.
-/
import Derived.Test.YtgmifgfbnnbgjaaGreatDoorProg
import Derived.Test.YtgmifgfbnnbgjaaGreatDoorZa
set_option linter.unusedVariables false
set_option linter.unusedSimpArgs false
set_option maxRecDepth 1000000
set_option maxHeartbeats 3200000
section
namespace Go.Proofs.YtgmifgfbnnbgjaaGreatDoor
open Go
section
abbrev oR (d:Nat) (o:IOp):IOpR:=⟨some d,o,none,[]⟩
abbrev oM (d a:Nat):IOpR:=⟨some d,.mov (.tmp a),none,[]⟩
abbrev oG (d:Nat) (o:IOp) (j:Nat) (b:Bool):IOpR:=⟨some d,o,some (j,b),[]⟩
abbrev oN (o:IOp):IOpR:=⟨none,o,none,[]⟩
abbrev oL (d a:Nat):IOpR:=⟨some d,.load false 1 (.tmp a),none,[]⟩
abbrev oA (d n a:Nat):IOpR:=⟨some d,.load true n (.tmp a),none,[]⟩
abbrev oD (d n a b:Nat):IOpR:=⟨some d,.iaddr n (.tmp a) (.tmp b),none,[]⟩
abbrev oF (d k a:Nat):IOpR:=⟨some d,.faddr k (.tmp a),none,[]⟩
abbrev oK (d:Nat) (x:Int):IOpR:=⟨some d,.mov (.const (.int .i64 x)),none,[]⟩
abbrev oJ (d:Nat) (o:BinOp) (a:Nat) (x:Int):IOpR:=⟨some d,.bin o (.tmp a) (.const (.int .i64 x)),none,[]⟩
abbrev oB (d:Nat) (o:BinOp) (a b:Nat):IOpR:=⟨some d,.bin o (.tmp a) (.tmp b),none,[]⟩
abbrev oE (d n a:Nat):IOpR:=⟨some d,.len n (.tmp a),none,[]⟩
abbrev oX (d a i:Nat):IOpR:=⟨some d,.extract (.tmp a) i,none,[]⟩
abbrev oH (d a s:Nat):IOpR:=⟨some d,.box (.tmp a) s,none,[]⟩
abbrev oZ (s:Nat) (l:List IOpR):IC:=.region false s l []
abbrev oC (a e:Nat):IC:=.cond (.tmp a) .skip (.exit e)
abbrev oT (a:Nat):Opd:=.tmp a
abbrev oI (x:Int):Opd:=.const (.int .i64 x)
structure SF where
 sz:Nat
 ag:Bool
 ins:FuncId
 sift:FuncId
 heap:FuncId
 ord2:FuncId
 med:FuncId
 medA:FuncId
 rev:FuncId
 piv:FuncId
 brk:FuncId
 parE:FuncId
 part:FuncId
 par:FuncId
 pdq:FuncId
 sort:FuncId
def cIns (X:SF):IFn:=⟨53,[],(.seq (oZ 0 [oM 10 1,oJ 11 .add 10 1,oM 8 11]) (.block 0 (.loop (.seq (.seq (oZ 0 [oM 12 8,oM 13 2,oB 14 .lss 12 13]) (oC 14 0)) (.seq (.block 1 (.seq (oZ 0 [oM 17 8,oM 9 17]) (.block 2 (.loop (.seq (.seq (.region true 1 [oM 18 9,oM 19 1,oB 20 .gtr 18 19,oM 21 20,oG 22 (.mov (oT 3)) 21 true,oG 23 (.mov (oT 0)) 21 true,oG 24 (.mov (oT 9)) 21 true,oG 25 (.iaddr X.sz (oT 23) (oT 24)) 21 true,oG 26 (.load X.ag X.sz (oT 25)) 21 true,oG 27 (.mov (oT 0)) 21 true,oG 28 (.mov (oT 9)) 21 true,oG 29 (.bin .sub (oT 28) (oI 1)) 21 true,oG 30 (.iaddr X.sz (oT 27) (oT 29)) 21 true,oG 31 (.load X.ag X.sz (oT 30)) 21 true,oG 32 (.call (oT 22) [(oT 26),(oT 31)] 0) 21 true,⟨(.some 33),(.bin .lss (oT 32) (oI 0)),(.some (21,true)),[0]⟩,⟨(.some 34),(.pick (oT 21) (oT 33) (.const (.bool false))),.none,[0]⟩] [(8,13)]) (oC 34 2)) (.seq (.block 3 (.region true 0 [oM 37 0,oM 38 9,oM 39 0,oM 40 9,oJ 41 .sub 40 1,oM 42 0,oM 43 9,oJ 44 .sub 43 1,oR 45 (.iaddr X.sz (oT 42) (oT 44)),oR 46 (.load X.ag X.sz (oT 45)),oM 47 0,oM 48 9,oR 49 (.iaddr X.sz (oT 47) (oT 48)),oR 50 (.load X.ag X.sz (oT 49)),oR 51 (.iaddr X.sz (oT 37) (oT 38)),oN (.store X.sz (oT 51) (oT 46)),oR 52 (.iaddr X.sz (oT 39) (oT 41)),oN (.store X.sz (oT 52) (oT 50))] [(9,13)])) (oZ 0 [oM 35 9,oJ 36 .sub 35 1,oM 9 36]))))))) (oZ 0 [oM 15 8,oJ 16 .add 15 1,oM 8 16])))))),2⟩
def cSift (X:SF):IFn:=⟨82,[],(.seq (oZ 0 [oM 12 1,oM 10 12]) (.block 0 (.loop (.block 1 (.seq (oZ 0 [oM 13 10,oR 14 (.bin .mul (oI 2) (oT 13)),oJ 15 .add 14 1,oM 11 15]) (.seq (.seq (oZ 0 [oM 16 11,oM 17 2,oB 18 .geq 16 17]) (.cond (oT 18) (.exit 0) .skip)) (.seq (.seq (.region true 1 [oM 19 11,oJ 20 .add 19 1,oM 21 2,oB 22 .lss 20 21,oM 23 22,oG 24 (.mov (oT 4)) 23 true,oG 25 (.mov (oT 0)) 23 true,oG 26 (.mov (oT 3)) 23 true,oG 27 (.mov (oT 11)) 23 true,oG 28 (.bin .add (oT 26) (oT 27)) 23 true,oG 29 (.iaddr X.sz (oT 25) (oT 28)) 23 true,oG 30 (.load X.ag X.sz (oT 29)) 23 true,oG 31 (.mov (oT 0)) 23 true,oG 32 (.mov (oT 3)) 23 true,oG 33 (.mov (oT 11)) 23 true,oG 34 (.bin .add (oT 32) (oT 33)) 23 true,oG 35 (.bin .add (oT 34) (oI 1)) 23 true,oG 36 (.iaddr X.sz (oT 31) (oT 35)) 23 true,oG 37 (.load X.ag X.sz (oT 36)) 23 true,oG 38 (.call (oT 24) [(oT 30),(oT 37)] 0) 23 true,⟨(.some 39),(.bin .lss (oT 38) (oI 0)),(.some (23,true)),[0]⟩,⟨(.some 40),(.pick (oT 23) (oT 39) (.const (.bool false))),.none,[0]⟩] [(11,18)]) (.cond (oT 40) (oZ 0 [oM 41 11,oJ 42 .add 41 1,oM 11 42]) .skip)) (.seq (.seq (.region true 1 [oM 43 4,oM 44 0,oM 45 3,oM 46 10,oB 47 .add 45 46,oR 48 (.iaddr X.sz (oT 44) (oT 47)),oR 49 (.load X.ag X.sz (oT 48)),oM 50 0,oM 51 3,oM 52 11,oB 53 .add 51 52,oR 54 (.iaddr X.sz (oT 50) (oT 53)),oR 55 (.load X.ag X.sz (oT 54)),oR 56 (.call (oT 43) [(oT 49),(oT 55)] 0),⟨(.some 57),(.bin .lss (oT 56) (oI 0)),.none,[0]⟩,⟨(.some 58),(.un .not (oT 57)),.none,[0]⟩] [(6,12)]) (.cond (oT 58) .ret .skip)) (.seq (.region true 0 [oM 59 0,oM 60 3,oM 61 10,oB 62 .add 60 61,oM 63 0,oM 64 3,oM 65 11,oB 66 .add 64 65,oM 67 0,oM 68 3,oM 69 11,oB 70 .add 68 69,oR 71 (.iaddr X.sz (oT 67) (oT 70)),oR 72 (.load X.ag X.sz (oT 71)),oM 73 0,oM 74 3,oM 75 10,oB 76 .add 74 75,oR 77 (.iaddr X.sz (oT 73) (oT 76)),oR 78 (.load X.ag X.sz (oT 77)),oR 79 (.iaddr X.sz (oT 59) (oT 62)),oN (.store X.sz (oT 79) (oT 72)),oR 80 (.iaddr X.sz (oT 63) (oT 66)),oN (.store X.sz (oT 80) (oT 78))] [(13,19)]) (oZ 0 [oM 81 11,oM 10 81])))))))))),2⟩
def cHeap (X:SF):IFn:=⟨60,[],(.seq (oZ 0 [oM 13 1,oM 8 13]) (.seq (oZ 0 [oK 9 0]) (.seq (oZ 0 [oM 14 2,oM 15 1,oB 16 .sub 14 15,oM 10 16]) (.seq (.seq (oZ 0 [oM 17 10,oJ 18 .sub 17 1,oJ 19 .quo 18 2,oM 11 19]) (.block 0 (.loop (.seq (.seq (oZ 0 [oM 20 11,oJ 21 .geq 20 0]) (oC 21 0)) (.seq (.block 1 (oZ 1 [oM 24 0,oM 25 11,oM 26 10,oM 27 8,oM 28 3,oR 29 (.call (.const (.fn X.sift [] [])) [(oT 24),(oT 25),(oT 26),(oT 27),(oT 28)] 0)])) (oZ 0 [oM 22 11,oJ 23 .sub 22 1,oM 11 23])))))) (.seq (oZ 0 [oM 30 10,oJ 31 .sub 30 1,oM 12 31]) (.block 2 (.loop (.seq (.seq (oZ 0 [oM 32 12,oJ 33 .geq 32 0]) (oC 33 2)) (.seq (.block 3 (.seq (.region true 0 [oM 36 0,oM 37 8,oM 38 0,oM 39 8,oM 40 12,oB 41 .add 39 40,oM 42 0,oM 43 8,oM 44 12,oB 45 .add 43 44,oR 46 (.iaddr X.sz (oT 42) (oT 45)),oR 47 (.load X.ag X.sz (oT 46)),oM 48 0,oM 49 8,oR 50 (.iaddr X.sz (oT 48) (oT 49)),oR 51 (.load X.ag X.sz (oT 50)),oR 52 (.iaddr X.sz (oT 36) (oT 37)),oN (.store X.sz (oT 52) (oT 47)),oR 53 (.iaddr X.sz (oT 38) (oT 41)),oN (.store X.sz (oT 53) (oT 51))] [(11,15)]) (oZ 1 [oM 54 0,oM 55 9,oM 56 12,oM 57 8,oM 58 3,oR 59 (.call (.const (.fn X.sift [] [])) [(oT 54),(oT 55),(oT 56),(oT 57),(oT 58)] 0)]))) (oZ 0 [oM 34 12,oJ 35 .sub 34 1,oM 12 35])))))))))),2⟩
def cOrd2 (X:SF):IFn:=⟨32,[(.tmp 10),(.tmp 11)],(.seq (oZ 0 [oK 10 0,oK 11 0]) (.seq (.seq (.region true 1 [oM 12 4,oM 13 0,oM 14 2,oR 15 (.iaddr X.sz (oT 13) (oT 14)),oR 16 (.load X.ag X.sz (oT 15)),oM 17 0,oM 18 1,oR 19 (.iaddr X.sz (oT 17) (oT 18)),oR 20 (.load X.ag X.sz (oT 19)),oR 21 (.call (oT 12) [(oT 16),(oT 20)] 0),⟨(.some 22),(.bin .lss (oT 21) (oI 0)),.none,[0]⟩] [(4,8)]) (.cond (oT 22) (.seq (oZ 0 [oM 23 3,oR 24 (.nilchk (oT 23)),oL 25 24,oJ 26 .add 25 1,oR 27 (.nilchk (oT 23)),oN (.store 1 (oT 27) (oT 26))]) (.seq (oZ 0 [oM 28 2,oM 29 1,oM 10 28,oM 11 29]) .ret)) .skip)) (.seq (oZ 0 [oM 30 1,oM 31 2,oM 10 30,oM 11 31]) .ret))),2⟩
def cMed (X:SF):IFn:=⟨41,[(.tmp 12)],(.seq (oZ 0 [oK 12 0]) (.seq (oZ 1 [oM 14 0,oM 15 1,oM 16 2,oM 17 4,oM 18 5,oR 19 (.call (.const (.fn X.ord2 [] [])) [(oT 14),(oT 15),(oT 16),(oT 17),(oT 18)] 0),oM 13 19,oX 20 13 0,oX 21 13 1,oM 1 20,oM 2 21]) (.seq (oZ 1 [oM 23 0,oM 24 2,oM 25 3,oM 26 4,oM 27 5,oR 28 (.call (.const (.fn X.ord2 [] [])) [(oT 23),(oT 24),(oT 25),(oT 26),(oT 27)] 0),oM 22 28,oX 29 22 0,oX 30 22 1,oM 2 29,oM 3 30]) (.seq (oZ 1 [oM 32 0,oM 33 1,oM 34 2,oM 35 4,oM 36 5,oR 37 (.call (.const (.fn X.ord2 [] [])) [(oT 32),(oT 33),(oT 34),(oT 35),(oT 36)] 0),oM 31 37,oX 38 31 0,oX 39 31 1,oM 1 38,oM 2 39]) (.seq (oZ 0 [oM 40 2,oM 12 40]) .ret))))),2⟩
def cMedA (X:SF):IFn:=⟨18,[(.tmp 8)],(.seq (oZ 0 [oK 8 0]) (.seq (oZ 1 [oM 9 0,oM 10 1,oJ 11 .sub 10 1,oM 12 1,oM 13 1,oJ 14 .add 13 1,oM 15 2,oM 16 3,oR 17 (.call (.const (.fn X.med [] [])) [(oT 9),(oT 11),(oT 12),(oT 14),(oT 15),(oT 16)] 0),oM 8 17]) .ret)),2⟩
def cRev (X:SF):IFn:=⟨34,[],(.seq (oZ 0 [oM 10 1,oM 8 10]) (.seq (oZ 0 [oM 11 2,oJ 12 .sub 11 1,oM 9 12]) (.block 0 (.loop (.seq (.seq (oZ 0 [oM 13 8,oM 14 9,oB 15 .lss 13 14]) (oC 15 0)) (.block 1 (.seq (.region true 0 [oM 16 0,oM 17 8,oM 18 0,oM 19 9,oM 20 0,oM 21 9,oR 22 (.iaddr X.sz (oT 20) (oT 21)),oR 23 (.load X.ag X.sz (oT 22)),oM 24 0,oM 25 8,oR 26 (.iaddr X.sz (oT 24) (oT 25)),oR 27 (.load X.ag X.sz (oT 26)),oR 28 (.iaddr X.sz (oT 16) (oT 17)),oN (.store X.sz (oT 28) (oT 23)),oR 29 (.iaddr X.sz (oT 18) (oT 19)),oN (.store X.sz (oT 29) (oT 27))] [(7,11)]) (.seq (oZ 0 [oM 30 8,oJ 31 .add 30 1,oM 8 31]) (oZ 0 [oM 32 9,oJ 33 .sub 32 1,oM 9 33]))))))))),2⟩
def cPiv (X:SF):IFn:=⟨63,[(.tmp 8),(.tmp 9)],(.seq (oZ 0 [oK 8 0,oK 9 0]) (.seq (oZ 0 [oM 15 2,oM 16 1,oB 17 .sub 15 16,oM 10 17]) (.seq (oZ 1 [oR 11 (.newv [(.int .i64 0)] 0)]) (.seq (oZ 0 [oM 18 1,oM 19 10,oJ 20 .quo 19 4,oJ 21 .mul 20 1,oB 22 .add 18 21,oM 12 22]) (.seq (oZ 0 [oM 23 1,oM 24 10,oJ 25 .quo 24 4,oJ 26 .mul 25 2,oB 27 .add 23 26,oM 13 27]) (.seq (oZ 0 [oM 28 1,oM 29 10,oJ 30 .quo 29 4,oJ 31 .mul 30 3,oB 32 .add 28 31,oM 14 32]) (.seq (.seq (oZ 0 [oM 33 10,oJ 34 .geq 33 8]) (.cond (oT 34) (.seq (.seq (oZ 0 [oM 35 10,oJ 36 .geq 35 50]) (.cond (oT 36) (.seq (oZ 1 [oM 37 0,oM 38 12,oM 39 3,oR 40 (.call (.const (.fn X.medA [] [])) [(oT 37),(oT 38),(oT 11),(oT 39)] 0),oM 12 40]) (.seq (oZ 1 [oM 41 0,oM 42 13,oM 43 3,oR 44 (.call (.const (.fn X.medA [] [])) [(oT 41),(oT 42),(oT 11),(oT 43)] 0),oM 13 44]) (oZ 1 [oM 45 0,oM 46 14,oM 47 3,oR 48 (.call (.const (.fn X.medA [] [])) [(oT 45),(oT 46),(oT 11),(oT 47)] 0),oM 14 48]))) .skip)) (oZ 1 [oM 49 0,oM 50 12,oM 51 13,oM 52 14,oM 53 3,oR 54 (.call (.const (.fn X.med [] [])) [(oT 49),(oT 50),(oT 51),(oT 52),(oT 11),(oT 53)] 0),oM 13 54])) .skip)) (.seq (oZ 0 [oL 55 11]) (.block 0 (.seq (oZ 0 [oJ 58 .eql 55 0,oM 57 58]) (.cond (oT 57) (.seq (oZ 0 [oM 59 13,oM 8 59,oK 9 1]) .ret) (.seq (oZ 0 [oJ 61 .eql 55 12,oM 60 61]) (.cond (oT 60) (.seq (oZ 0 [oM 62 13,oM 8 62,oK 9 2]) .ret) (.seq (oZ 0 [oM 56 13,oM 8 56,oK 9 0]) .ret)))))))))))))),2⟩
def cBrk (X:SF):IFn:=⟨67,[],(.seq (oZ 0 [oM 13 2,oM 14 1,oB 15 .sub 13 14,oM 8 15]) (.seq (oZ 0 [oM 16 8,oJ 17 .geq 16 8]) (.cond (oT 17) (.seq (oZ 1 [oM 18 8,oR 19 (.conv .u64 (oT 18)),oR 9 (.newv [(.int .u64 0)] 0),oN (.store 1 (oT 9) (oT 19))]) (.seq (oZ 1 [oM 20 8,oR 21 (.call (.const (.fn 235 [] [])) [(oT 20)] 0),oM 10 21]) (.seq (oZ 0 [oM 22 1,oM 23 8,oJ 24 .quo 23 4,oJ 25 .mul 24 2,oB 26 .add 22 25,oJ 27 .sub 26 1,oM 11 27]) (.block 0 (.loop (.seq (.seq (oZ 0 [oM 28 11,oM 29 1,oM 30 8,oJ 31 .quo 30 4,oJ 32 .mul 31 2,oB 33 .add 29 32,oJ 34 .add 33 1,oB 35 .leq 28 34]) (oC 35 0)) (.seq (.block 1 (.seq (oZ 1 [oR 38 (.call (.const (.fn 236 [] [])) [(oT 9)] 0),oM 39 10,oR 40 (.bin .sub (oT 39) (.const (.int .u64 1))),oB 41 .and 38 40,oR 42 (.conv .i64 (oT 41)),oM 12 42]) (.seq (.seq (oZ 0 [oM 43 12,oM 44 8,oB 45 .geq 43 44]) (.cond (oT 45) (oZ 0 [oM 46 12,oM 47 8,oB 48 .sub 46 47,oM 12 48]) .skip)) (.region true 0 [oM 49 0,oM 50 11,oM 51 0,oM 52 1,oM 53 12,oB 54 .add 52 53,oM 55 0,oM 56 1,oM 57 12,oB 58 .add 56 57,oR 59 (.iaddr X.sz (oT 55) (oT 58)),oR 60 (.load X.ag X.sz (oT 59)),oM 61 0,oM 62 11,oR 63 (.iaddr X.sz (oT 61) (oT 62)),oR 64 (.load X.ag X.sz (oT 63)),oR 65 (.iaddr X.sz (oT 49) (oT 50)),oN (.store X.sz (oT 65) (oT 60)),oR 66 (.iaddr X.sz (oT 51) (oT 54)),oN (.store X.sz (oT 66) (oT 64))] [(11,15)])))) (oZ 0 [oM 36 11,oJ 37 .add 36 1,oM 11 37])))))))) .skip))),2⟩
def cParE (X:SF):IFn:=⟨90,[(.tmp 10)],(.seq (oZ 0 [oK 10 0]) (.seq (.region true 0 [oM 13 0,oM 14 1,oM 15 0,oM 16 3,oM 17 0,oM 18 3,oR 19 (.iaddr X.sz (oT 17) (oT 18)),oR 20 (.load X.ag X.sz (oT 19)),oM 21 0,oM 22 1,oR 23 (.iaddr X.sz (oT 21) (oT 22)),oR 24 (.load X.ag X.sz (oT 23)),oR 25 (.iaddr X.sz (oT 13) (oT 14)),oN (.store X.sz (oT 25) (oT 20)),oR 26 (.iaddr X.sz (oT 15) (oT 16)),oN (.store X.sz (oT 26) (oT 24))] [(7,11)]) (.seq (oZ 0 [oM 27 1,oJ 28 .add 27 1,oM 29 2,oJ 30 .sub 29 1,oM 11 28,oM 12 30]) (.seq (.block 0 (.loop (.block 1 (.seq (.block 2 (.loop (.seq (.seq (.region true 1 [oM 31 11,oM 32 12,oB 33 .leq 31 32,oM 34 33,oG 35 (.mov (oT 4)) 34 true,oG 36 (.mov (oT 0)) 34 true,oG 37 (.mov (oT 1)) 34 true,oG 38 (.iaddr X.sz (oT 36) (oT 37)) 34 true,oG 39 (.load X.ag X.sz (oT 38)) 34 true,oG 40 (.mov (oT 0)) 34 true,oG 41 (.mov (oT 11)) 34 true,oG 42 (.iaddr X.sz (oT 40) (oT 41)) 34 true,oG 43 (.load X.ag X.sz (oT 42)) 34 true,oG 44 (.call (oT 35) [(oT 39),(oT 43)] 0) 34 true,⟨(.some 45),(.bin .lss (oT 44) (oI 0)),(.some (34,true)),[0]⟩,⟨(.some 46),(.un .not (oT 45)),(.some (34,true)),[0]⟩,⟨(.some 47),(.pick (oT 34) (oT 46) (.const (.bool false))),.none,[0]⟩] [(8,12)]) (oC 47 2)) (.block 3 (oZ 0 [oM 48 11,oJ 49 .add 48 1,oM 11 49]))))) (.seq (.block 4 (.loop (.seq (.seq (.region true 1 [oM 50 11,oM 51 12,oB 52 .leq 50 51,oM 53 52,oG 54 (.mov (oT 4)) 53 true,oG 55 (.mov (oT 0)) 53 true,oG 56 (.mov (oT 1)) 53 true,oG 57 (.iaddr X.sz (oT 55) (oT 56)) 53 true,oG 58 (.load X.ag X.sz (oT 57)) 53 true,oG 59 (.mov (oT 0)) 53 true,oG 60 (.mov (oT 12)) 53 true,oG 61 (.iaddr X.sz (oT 59) (oT 60)) 53 true,oG 62 (.load X.ag X.sz (oT 61)) 53 true,oG 63 (.call (oT 54) [(oT 58),(oT 62)] 0) 53 true,⟨(.some 64),(.bin .lss (oT 63) (oI 0)),(.some (53,true)),[0]⟩,⟨(.some 65),(.pick (oT 53) (oT 64) (.const (.bool false))),.none,[0]⟩] [(8,12)]) (oC 65 4)) (.block 5 (oZ 0 [oM 66 12,oJ 67 .sub 66 1,oM 12 67]))))) (.seq (.seq (oZ 0 [oM 68 11,oM 69 12,oB 70 .gtr 68 69]) (.cond (oT 70) (.exit 0) .skip)) (.seq (.region true 0 [oM 71 0,oM 72 11,oM 73 0,oM 74 12,oM 75 0,oM 76 12,oR 77 (.iaddr X.sz (oT 75) (oT 76)),oR 78 (.load X.ag X.sz (oT 77)),oM 79 0,oM 80 11,oR 81 (.iaddr X.sz (oT 79) (oT 80)),oR 82 (.load X.ag X.sz (oT 81)),oR 83 (.iaddr X.sz (oT 71) (oT 72)),oN (.store X.sz (oT 83) (oT 78)),oR 84 (.iaddr X.sz (oT 73) (oT 74)),oN (.store X.sz (oT 84) (oT 82))] [(7,11)]) (.seq (oZ 0 [oM 85 11,oJ 86 .add 85 1,oM 11 86]) (oZ 0 [oM 87 12,oJ 88 .sub 87 1,oM 12 88]))))))))) (.seq (oZ 0 [oM 89 11,oM 10 89]) .ret))))),2⟩
def cPart (X:SF):IFn:=⟨141,[(.tmp 8)],(.seq (oZ 0 [oR 8 (.mov (.const (.bool false)))]) (.seq (oZ 0 [oM 13 1,oJ 14 .add 13 1,oM 9 14]) (.seq (.seq (oZ 0 [oK 10 0]) (.block 0 (.loop (.seq (.seq (oZ 0 [oM 15 10,oJ 16 .lss 15 5]) (oC 16 0)) (.seq (.block 1 (.seq (.block 2 (.loop (.seq (.seq (.region true 1 [oM 19 9,oM 20 2,oB 21 .lss 19 20,oM 22 21,oG 23 (.mov (oT 3)) 22 true,oG 24 (.mov (oT 0)) 22 true,oG 25 (.mov (oT 9)) 22 true,oG 26 (.iaddr X.sz (oT 24) (oT 25)) 22 true,oG 27 (.load X.ag X.sz (oT 26)) 22 true,oG 28 (.mov (oT 0)) 22 true,oG 29 (.mov (oT 9)) 22 true,oG 30 (.bin .sub (oT 29) (oI 1)) 22 true,oG 31 (.iaddr X.sz (oT 28) (oT 30)) 22 true,oG 32 (.load X.ag X.sz (oT 31)) 22 true,oG 33 (.call (oT 23) [(oT 27),(oT 32)] 0) 22 true,⟨(.some 34),(.bin .lss (oT 33) (oI 0)),(.some (22,true)),[0]⟩,⟨(.some 35),(.un .not (oT 34)),(.some (22,true)),[0]⟩,⟨(.some 36),(.pick (oT 22) (oT 35) (.const (.bool false))),.none,[0]⟩] [(8,13)]) (oC 36 2)) (.block 3 (oZ 0 [oM 37 9,oJ 38 .add 37 1,oM 9 38]))))) (.seq (.seq (oZ 0 [oM 39 9,oM 40 2,oB 41 .eql 39 40]) (.cond (oT 41) (.seq (oZ 0 [oR 8 (.mov (.const (.bool true)))]) .ret) .skip)) (.seq (.seq (oZ 0 [oM 42 2,oM 43 1,oB 44 .sub 42 43,oJ 45 .lss 44 50]) (.cond (oT 45) (.seq (oZ 0 [oR 8 (.mov (.const (.bool false)))]) .ret) .skip)) (.seq (.region true 0 [oM 46 0,oM 47 9,oM 48 0,oM 49 9,oJ 50 .sub 49 1,oM 51 0,oM 52 9,oJ 53 .sub 52 1,oR 54 (.iaddr X.sz (oT 51) (oT 53)),oR 55 (.load X.ag X.sz (oT 54)),oM 56 0,oM 57 9,oR 58 (.iaddr X.sz (oT 56) (oT 57)),oR 59 (.load X.ag X.sz (oT 58)),oR 60 (.iaddr X.sz (oT 46) (oT 47)),oN (.store X.sz (oT 60) (oT 55)),oR 61 (.iaddr X.sz (oT 48) (oT 50)),oN (.store X.sz (oT 61) (oT 59))] [(9,13)]) (.seq (.seq (oZ 0 [oM 62 9,oM 63 1,oB 64 .sub 62 63,oJ 65 .geq 64 2]) (.cond (oT 65) (.seq (oZ 0 [oM 66 9,oJ 67 .sub 66 1,oM 11 67]) (.block 4 (.loop (.seq (.seq (oZ 0 [oM 68 11,oJ 69 .geq 68 1]) (oC 69 4)) (.seq (.block 5 (.seq (.seq (.region true 1 [oM 72 3,oM 73 0,oM 74 11,oR 75 (.iaddr X.sz (oT 73) (oT 74)),oR 76 (.load X.ag X.sz (oT 75)),oM 77 0,oM 78 11,oJ 79 .sub 78 1,oR 80 (.iaddr X.sz (oT 77) (oT 79)),oR 81 (.load X.ag X.sz (oT 80)),oR 82 (.call (oT 72) [(oT 76),(oT 81)] 0),⟨(.some 83),(.bin .lss (oT 82) (oI 0)),.none,[0]⟩,⟨(.some 84),(.un .not (oT 83)),.none,[0]⟩] [(4,9)]) (.cond (oT 84) (.exit 4) .skip)) (.region true 0 [oM 85 0,oM 86 11,oM 87 0,oM 88 11,oJ 89 .sub 88 1,oM 90 0,oM 91 11,oJ 92 .sub 91 1,oR 93 (.iaddr X.sz (oT 90) (oT 92)),oR 94 (.load X.ag X.sz (oT 93)),oM 95 0,oM 96 11,oR 97 (.iaddr X.sz (oT 95) (oT 96)),oR 98 (.load X.ag X.sz (oT 97)),oR 99 (.iaddr X.sz (oT 85) (oT 86)),oN (.store X.sz (oT 99) (oT 94)),oR 100 (.iaddr X.sz (oT 87) (oT 89)),oN (.store X.sz (oT 100) (oT 98))] [(9,13)]))) (oZ 0 [oM 70 11,oJ 71 .sub 70 1,oM 11 71])))))) .skip)) (.seq (oZ 0 [oM 101 2,oM 102 9,oB 103 .sub 101 102,oJ 104 .geq 103 2]) (.cond (oT 104) (.seq (oZ 0 [oM 105 9,oJ 106 .add 105 1,oM 12 106]) (.block 6 (.loop (.seq (.seq (oZ 0 [oM 107 12,oM 108 2,oB 109 .lss 107 108]) (oC 109 6)) (.seq (.block 7 (.seq (.seq (.region true 1 [oM 112 3,oM 113 0,oM 114 12,oR 115 (.iaddr X.sz (oT 113) (oT 114)),oR 116 (.load X.ag X.sz (oT 115)),oM 117 0,oM 118 12,oJ 119 .sub 118 1,oR 120 (.iaddr X.sz (oT 117) (oT 119)),oR 121 (.load X.ag X.sz (oT 120)),oR 122 (.call (oT 112) [(oT 116),(oT 121)] 0),⟨(.some 123),(.bin .lss (oT 122) (oI 0)),.none,[0]⟩,⟨(.some 124),(.un .not (oT 123)),.none,[0]⟩] [(4,9)]) (.cond (oT 124) (.exit 6) .skip)) (.region true 0 [oM 125 0,oM 126 12,oM 127 0,oM 128 12,oJ 129 .sub 128 1,oM 130 0,oM 131 12,oJ 132 .sub 131 1,oR 133 (.iaddr X.sz (oT 130) (oT 132)),oR 134 (.load X.ag X.sz (oT 133)),oM 135 0,oM 136 12,oR 137 (.iaddr X.sz (oT 135) (oT 136)),oR 138 (.load X.ag X.sz (oT 137)),oR 139 (.iaddr X.sz (oT 125) (oT 126)),oN (.store X.sz (oT 139) (oT 134)),oR 140 (.iaddr X.sz (oT 127) (oT 129)),oN (.store X.sz (oT 140) (oT 138))] [(9,13)]))) (oZ 0 [oM 110 12,oJ 111 .add 110 1,oM 12 111])))))) .skip)))))))) (oZ 0 [oM 17 10,oJ 18 .add 17 1,oM 10 18])))))) (.seq (oZ 0 [oR 8 (.mov (.const (.bool false)))]) .ret)))),2⟩
def cPar (X:SF):IFn:=⟨178,[(.tmp 10),(.tmp 11)],(.seq (oZ 0 [oK 10 0,oR 11 (.mov (.const (.bool false)))]) (.seq (.region true 0 [oM 14 0,oM 15 1,oM 16 0,oM 17 3,oM 18 0,oM 19 3,oR 20 (.iaddr X.sz (oT 18) (oT 19)),oR 21 (.load X.ag X.sz (oT 20)),oM 22 0,oM 23 1,oR 24 (.iaddr X.sz (oT 22) (oT 23)),oR 25 (.load X.ag X.sz (oT 24)),oR 26 (.iaddr X.sz (oT 14) (oT 15)),oN (.store X.sz (oT 26) (oT 21)),oR 27 (.iaddr X.sz (oT 16) (oT 17)),oN (.store X.sz (oT 27) (oT 25))] [(7,11)]) (.seq (oZ 0 [oM 28 1,oJ 29 .add 28 1,oM 30 2,oJ 31 .sub 30 1,oM 12 29,oM 13 31]) (.seq (.block 0 (.loop (.seq (.seq (.region true 1 [oM 32 12,oM 33 13,oB 34 .leq 32 33,oM 35 34,oG 36 (.mov (oT 4)) 35 true,oG 37 (.mov (oT 0)) 35 true,oG 38 (.mov (oT 12)) 35 true,oG 39 (.iaddr X.sz (oT 37) (oT 38)) 35 true,oG 40 (.load X.ag X.sz (oT 39)) 35 true,oG 41 (.mov (oT 0)) 35 true,oG 42 (.mov (oT 1)) 35 true,oG 43 (.iaddr X.sz (oT 41) (oT 42)) 35 true,oG 44 (.load X.ag X.sz (oT 43)) 35 true,oG 45 (.call (oT 36) [(oT 40),(oT 44)] 0) 35 true,⟨(.some 46),(.bin .lss (oT 45) (oI 0)),(.some (35,true)),[0]⟩,⟨(.some 47),(.pick (oT 35) (oT 46) (.const (.bool false))),.none,[0]⟩] [(8,12)]) (oC 47 0)) (.block 1 (oZ 0 [oM 48 12,oJ 49 .add 48 1,oM 12 49]))))) (.seq (.block 2 (.loop (.seq (.seq (.region true 1 [oM 50 12,oM 51 13,oB 52 .leq 50 51,oM 53 52,oG 54 (.mov (oT 4)) 53 true,oG 55 (.mov (oT 0)) 53 true,oG 56 (.mov (oT 13)) 53 true,oG 57 (.iaddr X.sz (oT 55) (oT 56)) 53 true,oG 58 (.load X.ag X.sz (oT 57)) 53 true,oG 59 (.mov (oT 0)) 53 true,oG 60 (.mov (oT 1)) 53 true,oG 61 (.iaddr X.sz (oT 59) (oT 60)) 53 true,oG 62 (.load X.ag X.sz (oT 61)) 53 true,oG 63 (.call (oT 54) [(oT 58),(oT 62)] 0) 53 true,⟨(.some 64),(.bin .lss (oT 63) (oI 0)),(.some (53,true)),[0]⟩,⟨(.some 65),(.un .not (oT 64)),(.some (53,true)),[0]⟩,⟨(.some 66),(.pick (oT 53) (oT 65) (.const (.bool false))),.none,[0]⟩] [(8,12)]) (oC 66 2)) (.block 3 (oZ 0 [oM 67 13,oJ 68 .sub 67 1,oM 13 68]))))) (.seq (.seq (oZ 0 [oM 69 12,oM 70 13,oB 71 .gtr 69 70]) (.cond (oT 71) (.seq (.region true 0 [oM 72 0,oM 73 13,oM 74 0,oM 75 1,oM 76 0,oM 77 1,oR 78 (.iaddr X.sz (oT 76) (oT 77)),oR 79 (.load X.ag X.sz (oT 78)),oM 80 0,oM 81 13,oR 82 (.iaddr X.sz (oT 80) (oT 81)),oR 83 (.load X.ag X.sz (oT 82)),oR 84 (.iaddr X.sz (oT 72) (oT 73)),oN (.store X.sz (oT 84) (oT 79)),oR 85 (.iaddr X.sz (oT 74) (oT 75)),oN (.store X.sz (oT 85) (oT 83))] [(7,11)]) (.seq (oZ 0 [oM 86 13,oM 10 86,oR 11 (.mov (.const (.bool true)))]) .ret)) .skip)) (.seq (.region true 0 [oM 87 0,oM 88 12,oM 89 0,oM 90 13,oM 91 0,oM 92 13,oR 93 (.iaddr X.sz (oT 91) (oT 92)),oR 94 (.load X.ag X.sz (oT 93)),oM 95 0,oM 96 12,oR 97 (.iaddr X.sz (oT 95) (oT 96)),oR 98 (.load X.ag X.sz (oT 97)),oR 99 (.iaddr X.sz (oT 87) (oT 88)),oN (.store X.sz (oT 99) (oT 94)),oR 100 (.iaddr X.sz (oT 89) (oT 90)),oN (.store X.sz (oT 100) (oT 98))] [(7,11)]) (.seq (oZ 0 [oM 101 12,oJ 102 .add 101 1,oM 12 102]) (.seq (oZ 0 [oM 103 13,oJ 104 .sub 103 1,oM 13 104]) (.seq (.block 4 (.loop (.block 5 (.seq (.block 6 (.loop (.seq (.seq (.region true 1 [oM 105 12,oM 106 13,oB 107 .leq 105 106,oM 108 107,oG 109 (.mov (oT 4)) 108 true,oG 110 (.mov (oT 0)) 108 true,oG 111 (.mov (oT 12)) 108 true,oG 112 (.iaddr X.sz (oT 110) (oT 111)) 108 true,oG 113 (.load X.ag X.sz (oT 112)) 108 true,oG 114 (.mov (oT 0)) 108 true,oG 115 (.mov (oT 1)) 108 true,oG 116 (.iaddr X.sz (oT 114) (oT 115)) 108 true,oG 117 (.load X.ag X.sz (oT 116)) 108 true,oG 118 (.call (oT 109) [(oT 113),(oT 117)] 0) 108 true,⟨(.some 119),(.bin .lss (oT 118) (oI 0)),(.some (108,true)),[0]⟩,⟨(.some 120),(.pick (oT 108) (oT 119) (.const (.bool false))),.none,[0]⟩] [(8,12)]) (oC 120 6)) (.block 7 (oZ 0 [oM 121 12,oJ 122 .add 121 1,oM 12 122]))))) (.seq (.block 8 (.loop (.seq (.seq (.region true 1 [oM 123 12,oM 124 13,oB 125 .leq 123 124,oM 126 125,oG 127 (.mov (oT 4)) 126 true,oG 128 (.mov (oT 0)) 126 true,oG 129 (.mov (oT 13)) 126 true,oG 130 (.iaddr X.sz (oT 128) (oT 129)) 126 true,oG 131 (.load X.ag X.sz (oT 130)) 126 true,oG 132 (.mov (oT 0)) 126 true,oG 133 (.mov (oT 1)) 126 true,oG 134 (.iaddr X.sz (oT 132) (oT 133)) 126 true,oG 135 (.load X.ag X.sz (oT 134)) 126 true,oG 136 (.call (oT 127) [(oT 131),(oT 135)] 0) 126 true,⟨(.some 137),(.bin .lss (oT 136) (oI 0)),(.some (126,true)),[0]⟩,⟨(.some 138),(.un .not (oT 137)),(.some (126,true)),[0]⟩,⟨(.some 139),(.pick (oT 126) (oT 138) (.const (.bool false))),.none,[0]⟩] [(8,12)]) (oC 139 8)) (.block 9 (oZ 0 [oM 140 13,oJ 141 .sub 140 1,oM 13 141]))))) (.seq (.seq (oZ 0 [oM 142 12,oM 143 13,oB 144 .gtr 142 143]) (.cond (oT 144) (.exit 4) .skip)) (.seq (.region true 0 [oM 145 0,oM 146 12,oM 147 0,oM 148 13,oM 149 0,oM 150 13,oR 151 (.iaddr X.sz (oT 149) (oT 150)),oR 152 (.load X.ag X.sz (oT 151)),oM 153 0,oM 154 12,oR 155 (.iaddr X.sz (oT 153) (oT 154)),oR 156 (.load X.ag X.sz (oT 155)),oR 157 (.iaddr X.sz (oT 145) (oT 146)),oN (.store X.sz (oT 157) (oT 152)),oR 158 (.iaddr X.sz (oT 147) (oT 148)),oN (.store X.sz (oT 158) (oT 156))] [(7,11)]) (.seq (oZ 0 [oM 159 12,oJ 160 .add 159 1,oM 12 160]) (oZ 0 [oM 161 13,oJ 162 .sub 161 1,oM 13 162]))))))))) (.seq (.region true 0 [oM 163 0,oM 164 13,oM 165 0,oM 166 1,oM 167 0,oM 168 1,oR 169 (.iaddr X.sz (oT 167) (oT 168)),oR 170 (.load X.ag X.sz (oT 169)),oM 171 0,oM 172 13,oR 173 (.iaddr X.sz (oT 171) (oT 172)),oR 174 (.load X.ag X.sz (oT 173)),oR 175 (.iaddr X.sz (oT 163) (oT 164)),oN (.store X.sz (oT 175) (oT 170)),oR 176 (.iaddr X.sz (oT 165) (oT 166)),oN (.store X.sz (oT 176) (oT 174))] [(7,11)]) (.seq (oZ 0 [oM 177 13,oM 10 177,oR 11 (.mov (.const (.bool false)))]) .ret)))))))))))),2⟩
def cPdq (X:SF):IFn:=⟨148,[],(.seq (oZ 0 [oR 10 (.mov (.const (.bool true)))]) (.seq (oZ 0 [oR 11 (.mov (.const (.bool true)))]) (.block 0 (.loop (.block 1 (.seq (oZ 0 [oM 21 2,oM 22 1,oB 23 .sub 21 22,oM 12 23]) (.seq (.seq (oZ 0 [oM 24 12,oJ 25 .leq 24 12]) (.cond (oT 25) (.seq (oZ 1 [oM 26 0,oM 27 1,oM 28 2,oM 29 4,oR 30 (.call (.const (.fn X.ins [] [])) [(oT 26),(oT 27),(oT 28),(oT 29)] 0)]) .ret) .skip)) (.seq (.seq (oZ 0 [oM 31 3,oJ 32 .eql 31 0]) (.cond (oT 32) (.seq (oZ 1 [oM 33 0,oM 34 1,oM 35 2,oM 36 4,oR 37 (.call (.const (.fn X.heap [] [])) [(oT 33),(oT 34),(oT 35),(oT 36)] 0)]) .ret) .skip)) (.seq (.seq (oZ 0 [oM 38 10,oR 39 (.un .not (oT 38))]) (.cond (oT 39) (.seq (oZ 1 [oM 40 0,oM 41 1,oM 42 2,oM 43 4,oR 44 (.call (.const (.fn X.brk [] [])) [(oT 40),(oT 41),(oT 42),(oT 43)] 0)]) (oZ 0 [oM 45 3,oJ 46 .sub 45 1,oM 3 46])) .skip)) (.seq (oZ 1 [oM 48 0,oM 49 1,oM 50 2,oM 51 4,oR 52 (.call (.const (.fn X.piv [] [])) [(oT 48),(oT 49),(oT 50),(oT 51)] 0),oM 47 52,oX 53 47 0,oX 54 47 1,oM 13 53,oM 14 54]) (.seq (.seq (oZ 0 [oM 55 14,oJ 56 .eql 55 2]) (.cond (oT 56) (.seq (oZ 1 [oM 57 0,oM 58 1,oM 59 2,oM 60 4,oR 61 (.call (.const (.fn X.rev [] [])) [(oT 57),(oT 58),(oT 59),(oT 60)] 0)]) (.seq (oZ 0 [oM 62 2,oJ 63 .sub 62 1,oM 64 13,oM 65 1,oB 66 .sub 64 65,oB 67 .sub 63 66,oM 13 67]) (oZ 0 [oK 14 1]))) .skip)) (.seq (.seq (oZ 0 [oM 68 10,oM 69 68,oG 70 (.mov (oT 11)) 69 true,oR 71 (.pick (oT 69) (oT 70) (.const (.bool false))),oM 72 71,oG 73 (.mov (oT 14)) 72 true,oG 74 (.bin .eql (oT 73) (oI 1)) 72 true,oR 75 (.pick (oT 72) (oT 74) (.const (.bool false)))]) (.cond (oT 75) (.seq (oZ 1 [oM 76 0,oM 77 1,oM 78 2,oM 79 4,oR 80 (.call (.const (.fn X.part [] [])) [(oT 76),(oT 77),(oT 78),(oT 79)] 0)]) (.cond (oT 80) .ret .skip)) .skip)) (.seq (.seq (.region true 1 [oM 81 1,oJ 82 .gtr 81 0,oM 83 82,oG 84 (.mov (oT 4)) 83 true,oG 85 (.mov (oT 0)) 83 true,oG 86 (.mov (oT 1)) 83 true,oG 87 (.bin .sub (oT 86) (oI 1)) 83 true,oG 88 (.iaddr X.sz (oT 85) (oT 87)) 83 true,oG 89 (.load X.ag X.sz (oT 88)) 83 true,oG 90 (.mov (oT 0)) 83 true,oG 91 (.mov (oT 13)) 83 true,oG 92 (.iaddr X.sz (oT 90) (oT 91)) 83 true,oG 93 (.load X.ag X.sz (oT 92)) 83 true,oG 94 (.call (oT 84) [(oT 89),(oT 93)] 0) 83 true,⟨(.some 95),(.bin .lss (oT 94) (oI 0)),(.some (83,true)),[0]⟩,⟨(.some 96),(.un .not (oT 95)),(.some (83,true)),[0]⟩,⟨(.some 97),(.pick (oT 83) (oT 96) (.const (.bool false))),.none,[0]⟩] [(8,12)]) (.cond (oT 97) (.seq (oZ 1 [oM 98 0,oM 99 1,oM 100 2,oM 101 13,oM 102 4,oR 103 (.call (.const (.fn X.parE [] [])) [(oT 98),(oT 99),(oT 100),(oT 101),(oT 102)] 0),oM 15 103]) (.seq (oZ 0 [oM 104 15,oM 1 104]) (.exit 1))) .skip)) (.seq (oZ 1 [oM 106 0,oM 107 1,oM 108 2,oM 109 13,oM 110 4,oR 111 (.call (.const (.fn X.par [] [])) [(oT 106),(oT 107),(oT 108),(oT 109),(oT 110)] 0),oM 105 111,oX 112 105 0,oX 113 105 1,oM 16 112,oM 17 113]) (.seq (oZ 0 [oM 114 17,oM 11 114]) (.seq (oZ 0 [oM 115 16,oM 116 1,oB 117 .sub 115 116,oM 118 2,oM 119 16,oB 120 .sub 118 119,oM 18 117,oM 19 120]) (.seq (oZ 0 [oM 121 12,oJ 122 .quo 121 8,oM 20 122]) (.seq (oZ 0 [oM 123 18,oM 124 19,oB 125 .lss 123 124]) (.cond (oT 125) (.seq (oZ 0 [oM 126 18,oM 127 20,oB 128 .geq 126 127,oM 10 128]) (.seq (oZ 1 [oM 129 0,oM 130 1,oM 131 16,oM 132 3,oM 133 4,oR 134 (.call (.const (.fn X.pdq [] [])) [(oT 129),(oT 130),(oT 131),(oT 132),(oT 133)] 0)]) (oZ 0 [oM 135 16,oJ 136 .add 135 1,oM 1 136]))) (.seq (oZ 0 [oM 137 19,oM 138 20,oB 139 .geq 137 138,oM 10 139]) (.seq (oZ 1 [oM 140 0,oM 141 16,oJ 142 .add 141 1,oM 143 2,oM 144 3,oM 145 4,oR 146 (.call (.const (.fn X.pdq [] [])) [(oT 140),(oT 142),(oT 143),(oT 144),(oT 145)] 0)]) (oZ 0 [oM 147 16,oM 2 147])))))))))))))))))))))),2⟩
def cSort (X:SF):IFn:=⟨14,[],(.seq (oZ 0 [oM 5 0,oE 6 1 5,oM 4 6]) (oZ 2 [oM 7 0,oM 8 4,oM 9 4,oR 10 (.conv .u64 (oT 9)),oR 11 (.call (.const (.fn 184 [] [])) [(oT 10)] 0),oM 12 1,oR 13 (.call (.const (.fn X.pdq [] [])) [(oT 7),(oI 0),(oT 8),(oT 11),(oT 12)] 1)])),2⟩
def qF:SF:=⟨1,false,270,290,271,297,292,291,274,273,272,276,275,277,253,224⟩
def uF:SF:=⟨2,true,281,293,282,298,295,294,285,284,283,287,286,288,268,243⟩
def setV:List IOpR->Nat->List (Nat × List Nat)->List IOpR
 | [],_,_=>[]
 | o::l,i,[]=>o::setV l (i+1) []
 | o::l,i,(k,v)::vs=>match Nat.beq i k with
  | true=>{ o with vis:=v }::setV l (i+1) vs
  | false=>o::setV l (i+1) ((k,v)::vs)
abbrev Ann:Type:=List (List (Nat × List Nat) × List (Nat × Nat))
def uK (P:Program):Nat->TypeId->Option (List Nat)
 | 0,_=>none
 | D+1,t=>match P.underlying t with
  | some .bool=>some [0]
  | some (.int _)=>some [1]
  | some .string=>some [2]
  | some (.struct fs)=>catK (uK P D) fs.toList 0
  | some (.array len e)=>(uK P D e).map fun l=>repK l len
  | _=>none
def uOp (P:Program) (o:Op) (slot:Nat):Option IOp :=
 match o with
 | .binOp op t x y z=>match P.underlying t,cOpd x,cOpd y with
  | some (.struct _),some x,some y=>(uK P 40 t).map fun ks=>.eqagg (match op with | .neq=>true | _=>false) ks x y
  | some (.array _ _),some x,some y=>(uK P 40 t).map fun ks=>.eqagg (match op with | .neq=>true | _=>false) ks x y
  | _,_,_=>cOp P (.binOp op t x y z) slot
 | .lookup t x ix ok=>match P.underlying t,cOpd x,cOpd ix with
  | some (.map k e),some y,some j=>match uK P 40 k,P.underlying k with
   | some kt,some u=>(zeroT P e).map fun z=>.lookup z (aggD u,kt) ok y j
   | _,_=>none
  | _,_,_=>none
 | .mapUpdate t m k v=>match P.underlying t,cOpd m,cOpd k,cOpd v with
  | some (.map kt _),some a,some b,some c=>match uK P 40 kt,P.underlying kt with
   | some l,some u=>some (.mapupd (aggD u,l) a b c)
   | _,_=>none
  | _,_,_,_=>none
 | o=>cOp P o slot
def uOps (P:Program) (ops:Array Oper):List Oper->Nat->Option (List IOpR × Nat)
 | [],s=>some ([],s)
 | o::rest,s=>match uOp P o.op s,cGuard ops o.guard with
  | some op,some g=>match uOps P ops rest (if op.makes then s+1 else s) with
   | some (l,s')=>some (⟨o.dst,op,g,[]⟩::l,s')
   | none=>none
  | _,_=>none
def uCode (P:Program):Code->Ann->Option (IC × Ann)
 | .skip,an=>some (.skip,an)
 | .region _ ops draw,an=>match uOps P ops ops.toList 0 with
  | none=>none
  | some (l,s)=>match draw,an with
   | false,an=>some (.region false s l [],an)
   | true,(vs,fr)::an=>some (.region true s (setV l 0 vs) fr,an)
   | true,[]=>none
 | .seq a b,an=>match uCode P a an with
  | some (x,an)=>match uCode P b an with
   | some (y,an)=>some (.seq x y,an)
   | none=>none
  | none=>none
 | .cond c a b,an=>match cOpd c,uCode P a an with
  | some z,some (x,an)=>match uCode P b an with
   | some (y,an)=>some (.cond z x y,an)
   | none=>none
  | _,_=>none
 | .block id a,an=>match uCode P a an with
  | some (x,an)=>some (.block id x,an)
  | none=>none
 | .loop a,an=>match uCode P a an with
  | some (x,an)=>some (.loop x,an)
  | none=>none
 | .exit id,an=>some (.exit id,an)
 | .ret,an=>some (.ret,an)
 | _,_=>none
def uCF (P:Program) (fn:Func) (an:Ann) (mode:Nat):Option IFn:=match fn.body with
 | none=>none
 | some c=>match uCode P c an,allM (cRes P) fn.results.toList with
  | some (b,_),some r=>some ⟨fn.ntmps,r,b,mode⟩
  | _,_=>none
abbrev uFn (mode:Nat) (fn:Func) (an:Ann) (i:IFn) (_:uCF Tryz.prog fn an mode=some i):IFn:=i
noncomputable def i3:IFn:=by
 refine uFn 0 Tryz.f3 [([(5,[0]),(6,[0,1]),(7,[0,1,2]),(8,[0,1,2]),(9,[0,1,2,3]),(10,[0,1,2,3])],[(0,1),(0,3),(1,3),(2,3),(0,4),(1,4),(2,4),(3,4)])] ?_ ?h; case h=>conv=>lhs; reduce; simp only [Int.reduceOfNat]
noncomputable def i5:IFn:=by
 refine uFn 0 Tryz.f5 [] ?_ ?h; case h=>conv=>lhs; reduce; simp only [Int.reduceOfNat]
noncomputable def i6:IFn:=by
 refine uFn 0 Tryz.f6 [([(22,[0]),(23,[0,1]),(24,[0,1]),(25,[0,1]),(26,[0,1]),(27,[0,1]),(28,[0,1,2]),(29,[0,1,2,3]),(30,[0,1,2,3])],[(20,21),(26,27)])] ?_ ?h; case h=>conv=>lhs; reduce; simp only [Int.reduceOfNat]
noncomputable def i7:IFn:=by
 refine uFn 0 Tryz.f7 [([],[(3,7)])] ?_ ?h; case h=>conv=>lhs; reduce; simp only [Int.reduceOfNat]
noncomputable def i8:IFn:=by
 refine uFn 0 Tryz.f8 [([(7,[0]),(8,[0,1])],[(0,3),(0,6),(3,6)]),([(8,[0]),(9,[0,1]),(10,[0,1,2])],[(1,4),(1,7),(4,7)]),([(6,[0]),(7,[0,1]),(8,[0,1,2])],[(1,3),(1,5),(3,5)])] ?_ ?h; case h=>conv=>lhs; reduce; simp only [Int.reduceOfNat]
noncomputable def i9:IFn:=by
 refine uFn 0 Tryz.f9 [([(5,[0]),(6,[0,1]),(7,[0,1])],[(1,4),(2,4)]),([(6,[0]),(7,[0]),(8,[0]),(9,[0]),(10,[0]),(11,[0]),(12,[0]),(13,[0]),(14,[0,1]),(15,[0,1]),(16,[0,1]),(17,[0,1]),(18,[0,1]),(19,[0,1]),(20,[0,1]),(21,[0,1]),(22,[0,1]),(23,[0,1]),(24,[0,1]),(25,[0,1,2]),(26,[0,1,2])],[(21,22),(21,23),(22,23)])] ?_ ?h; case h=>conv=>lhs; reduce; simp only [Int.reduceOfNat]
noncomputable def i12:IFn:=by
 refine uFn 0 Tryz.f12 [] ?_ ?h; case h=>conv=>lhs; reduce; simp only [Int.reduceOfNat]
noncomputable def i14:IFn:=by
 refine uFn 0 Tryz.f14 [] ?_ ?h; case h=>conv=>lhs; reduce; simp only [Int.reduceOfNat]
def i15:IFn:=⟨15,[(.cell true 4 4)],(.seq (oZ 1 [oR 4 (.newv [.nilsl,.nilsl,.nilsl,.nilsl] 0)]) (.seq (oZ 0 [oM 5 0,oR 6 (.build [(.int .i64 0),(.int .i64 0)] [(0,(1,(oT 5)))]),oR 7 (.build [(.int .i64 0),(.int .i64 0),(.int .i64 0)] [(0,(1,(oI 1))),(1,(2,(oT 6)))]),oR 8 (.bslice [(.int .i64 0),(.int .i64 0),(.int .i64 0)] 3 1 [(0,(3,(oT 7)))]),oR 9 (.build [.nilsl,.nilsl,.nilsl] [(0,(1,(oT 8)))]),oM 10 1,oR 11 (.bslice [(.int .i64 0)] 1 1 [(0,(1,(oI 1)))]),oR 12 (.build [(.int .i64 0),(.int .i64 0),(.int .i64 0),(.str (bs [])),.nilsl] [(0,(1,(oI 7))),(1,(1,(oI 1))),(2,(1,(oI 1))),(3,(1,(oT 10))),(4,(1,(oT 11)))]),oR 13 (.bslice [(.int .i64 0),(.int .i64 0),(.int .i64 0),(.str (bs [])),.nilsl] 5 1 [(0,(5,(oT 12)))]),oR 14 (.build [.nilsl,.nilsl,.nilsl,.nilsl] [(0,(3,(oT 9))),(3,(1,(oT 13)))]),oN (.store 4 (oT 4) (oT 14))]) .ret)),0⟩
noncomputable def i16:IFn:=by
 refine uFn 0 Tryz.f16 [] ?_ ?h; case h=>conv=>lhs; reduce; simp only [Int.reduceOfNat]
noncomputable def i17:IFn:=by
 refine uFn 0 Tryz.f17 [([(11,[0])],[(1,6),(4,6),(1,9),(4,9)])] ?_ ?h; case h=>conv=>lhs; reduce; simp only [Int.reduceOfNat]
noncomputable def i18:IFn:=by
 refine uFn 0 Tryz.f18 [] ?_ ?h; case h=>conv=>lhs; reduce; simp only [Int.reduceOfNat]
noncomputable def i19:IFn:=by
 refine uFn 1 Tryz.f19 [([(5,[0]),(6,[0,1]),(7,[0,1])],[(0,3),(2,3)]),([],[(2,5)]),([(15,[0]),(16,[0])],[(7,10),(7,13),(10,13)])] ?_ ?h; case h=>conv=>lhs; reduce; simp only [Int.reduceOfNat]
noncomputable def i20:IFn:=by
 refine uFn 0 Tryz.f20 [] ?_ ?h; case h=>conv=>lhs; reduce; simp only [Int.reduceOfNat]
noncomputable def i21:IFn:=by
 refine uFn 1 Tryz.f21 [([(5,[0]),(6,[0,1]),(7,[0,1])],[(0,3),(2,3)]),([],[(2,5)]),([(15,[0]),(16,[0])],[(7,10),(7,13),(10,13)])] ?_ ?h; case h=>conv=>lhs; reduce; simp only [Int.reduceOfNat]
noncomputable def i22:IFn:=by
 refine uFn 0 Tryz.f22 [] ?_ ?h; case h=>conv=>lhs; reduce; simp only [Int.reduceOfNat]
noncomputable def i23:IFn:=by
 refine uFn 1 Tryz.f23 [([(5,[0]),(6,[0,1]),(7,[0,1])],[(0,3),(2,3)]),([],[(2,5)]),([(15,[0]),(16,[0])],[(7,10),(7,13),(10,13)])] ?_ ?h; case h=>conv=>lhs; reduce; simp only [Int.reduceOfNat]
noncomputable def i24:IFn:=by
 refine uFn 0 Tryz.f24 [] ?_ ?h; case h=>conv=>lhs; reduce; simp only [Int.reduceOfNat]
noncomputable def i25:IFn:=by
 refine uFn 0 Tryz.f25 [] ?_ ?h; case h=>conv=>lhs; reduce; simp only [Int.reduceOfNat]
noncomputable def i26:IFn:=by
 refine uFn 0 Tryz.f26 [] ?_ ?h; case h=>conv=>lhs; reduce; simp only [Int.reduceOfNat]
noncomputable def i27:IFn:=by
 refine uFn 0 Tryz.f27 [] ?_ ?h; case h=>conv=>lhs; reduce; simp only [Int.reduceOfNat]
noncomputable def i32:IFn:=by
 refine uFn 0 Tryz.f32 [] ?_ ?h; case h=>conv=>lhs; reduce; simp only [Int.reduceOfNat]
def i33:IFn:=⟨113,[(.cell true 4 6),(.tmp 7)],(.seq (oZ 4 [oH 3 0 0,oH 4 1 1,oH 5 2 2,oR 6 (.newv [.nilsl,.nilsl,.nilsl,.nilsl] 3),oR 7 (.mov (.const .nilsl))]) (.seq (oZ 0 [oR 8 (.mov (.const .nilsl)),oR 9 (.mov (.const .nilsl))]) (.seq (.region true 2 [oR 16 (.call (.const (.fn 18 [] [])) [] 0),oF 17 0 3,oF 18 0 17,oL 19 18,oF 20 0 4,oF 21 0 20,oL 22 21,oF 23 0 5,oF 24 0 23,oL 25 24,⟨(.some 26),(.call (.const (.fn 74 [] [])) [(oT 16),(oT 19),(oT 22),(oT 25)] 1),.none,[0]⟩,⟨(.some 15),(.mov (oT 26)),.none,[0,1]⟩,⟨(.some 27),(.extract (oT 15) 0),.none,[0,1]⟩,⟨(.some 28),(.extract (oT 15) 1),.none,[0,1]⟩,⟨(.some 29),(.faddr 0 (oT 6)),.none,[0,1]⟩,⟨(.some 30),(.faddr 0 (oT 29)),.none,[0,1]⟩,⟨.none,(.store 1 (oT 30) (oT 27)),.none,[0,1]⟩,⟨(.some 7),(.mov (oT 28)),.none,[0,1]⟩] [(0,3),(0,6),(3,6),(0,9),(3,9),(6,9)]) (.seq (.region true 2 [oR 32 (.call (.const (.fn 20 [] [])) [] 0),oF 33 0 3,oF 34 1 33,oL 35 34,oF 36 0 4,oF 37 1 36,oL 38 37,oF 39 0 5,oF 40 1 39,oL 41 40,⟨(.some 42),(.call (.const (.fn 75 [] [])) [(oT 32),(oT 35),(oT 38),(oT 41)] 1),.none,[0]⟩,⟨(.some 31),(.mov (oT 42)),.none,[0,1]⟩,⟨(.some 43),(.extract (oT 31) 0),.none,[0,1]⟩,⟨(.some 44),(.extract (oT 31) 1),.none,[0,1]⟩,⟨(.some 45),(.faddr 0 (oT 6)),.none,[0,1]⟩,⟨(.some 46),(.faddr 1 (oT 45)),.none,[0,1]⟩,⟨.none,(.store 1 (oT 46) (oT 43)),.none,[0,1]⟩,⟨(.some 8),(.mov (oT 44)),.none,[0,1]⟩] [(0,3),(0,6),(3,6),(0,9),(3,9),(6,9)]) (.seq (.region true 2 [oR 48 (.call (.const (.fn 22 [] [])) [] 0),oF 49 3 3,oL 50 49,oF 51 3 4,oL 52 51,oF 53 3 5,oL 54 53,⟨(.some 55),(.call (.const (.fn 76 [] [])) [(oT 48),(oT 50),(oT 52),(oT 54)] 1),.none,[0]⟩,⟨(.some 47),(.mov (oT 55)),.none,[0,1]⟩,⟨(.some 56),(.extract (oT 47) 0),.none,[0,1]⟩,⟨(.some 57),(.extract (oT 47) 1),.none,[0,1]⟩,⟨(.some 58),(.faddr 3 (oT 6)),.none,[0,1]⟩,⟨.none,(.store 1 (oT 58) (oT 56)),.none,[0,1]⟩,⟨(.some 9),(.mov (oT 57)),.none,[0,1]⟩] [(0,2),(0,4),(2,4),(0,6),(2,6),(4,6)]) (.seq (oZ 0 [oR 10 (.mov (.const .nilsl))]) (.seq (.seq (oZ 0 [oF 59 0 6,oF 60 1 59,oL 61 60,oE 62 1 61,oK 63 0]) (.block 0 (.loop (.seq (oZ 0 [oB 64 .lss 63 62]) (.seq (oC 64 0) (.seq (.block 1 (.seq (oZ 1 [oM 65 63,oD 66 6 61 63,oA 67 6 66,oR 12 (.newv [(.int .i64 0),(.int .i64 0),(.int .i64 0),.nilsl,(.int .i64 0),(.int .i64 0)] 0),oM 11 65,oN (.store 6 (oT 12) (oT 67))]) (.seq (.region true 1 [oF 68 0 6,oF 69 1 68,oL 70 69,oM 71 11,oF 72 3 12,oL 73 72,oR 74 (.call (.const (.fn 77 [] [])) [(oT 73)] 0),⟨(.some 75),(.iaddr 6 (oT 70) (oT 71)),.none,[0]⟩,⟨(.some 76),(.faddr 3 (oT 75)),.none,[0]⟩,⟨.none,(.store 1 (oT 76) (oT 74)),.none,[0]⟩] [(2,5),(2,6)]) (oZ 1 [oM 77 10,oF 78 4 12,oL 79 78,oF 80 5 12,oL 81 80,oR 82 (.bslice [(.int .i64 0)] 1 2 [(0,(1,(oT 79))),(1,(1,(oT 81)))]),oR 83 (.append [(.int .i64 0)] 1 false (oT 77) (oT 82) 0),oM 10 83])))) (oZ 0 [oJ 84 .add 63 1,oM 63 84]))))))) (.seq (oZ 1 [oM 85 10,oR 86 (.bslice [(.int .i64 0)] 1 1 [(0,(1,(oI 0)))]),oR 87 (.call (.const (.fn 78 [] [])) [(oT 85),(oT 86)] 0),oF 88 0 6,oF 89 2 88,oN (.store 1 (oT 89) (oT 87))]) (.seq (.seq (oZ 0 [oF 90 3 6,oL 91 90,oE 92 1 91,oK 93 0]) (.block 2 (.loop (.seq (oZ 0 [oB 94 .lss 93 92]) (.seq (oC 94 2) (.seq (.block 3 (.seq (oZ 1 [oM 95 93,oD 96 5 91 93,oA 97 5 96,oR 14 (.newv [(.int .i64 0),(.int .i64 0),(.int .i64 0),(.str (bs [])),.nilsl] 0),oM 13 95,oN (.store 5 (oT 14) (oT 97))]) (.region true 1 [oF 98 3 6,oL 99 98,oM 100 13,oF 101 4 14,oL 102 101,oR 103 (.call (.const (.fn 79 [] [])) [(oT 102)] 0),⟨(.some 104),(.iaddr 5 (oT 99) (oT 100)),.none,[0]⟩,⟨(.some 105),(.faddr 4 (oT 104)),.none,[0]⟩,⟨.none,(.store 1 (oT 105) (oT 103)),.none,[0]⟩] [(1,4),(1,5)]))) (oZ 0 [oJ 106 .add 93 1,oM 93 106]))))))) (.seq (.region true 2 [oA 107 4 6,oM 108 7,oM 109 8,oR 110 (.append [(.int .i64 0),(.int .i64 0)] 2 false (oT 108) (oT 109) 0),oM 111 9,⟨(.some 112),(.append [(.int .i64 0),(.int .i64 0)] 2 false (oT 110) (oT 111) 1),.none,[0]⟩,⟨.none,(.store 4 (oT 6) (oT 107)),.none,[0,1]⟩,⟨(.some 7),(.mov (oT 112)),.none,[0,1]⟩] [(0,3),(0,5)]) .ret)))))))))),0⟩
noncomputable def i34:IFn:=by
 refine uFn 3 Tryz.f34 [] ?_ ?h; case h=>conv=>lhs; reduce; simp only [Int.reduceOfNat]
noncomputable def i35:IFn:=by
 refine uFn 0 Tryz.f35 [([],[(1,6),(4,6),(1,9),(4,9)]),([(11,[0])],[(1,6),(4,6),(1,9),(4,9)]),([],[(1,6),(4,6),(1,9),(4,9)])] ?_ ?h; case h=>conv=>lhs; reduce; simp only [Int.reduceOfNat]
noncomputable def i36:IFn:=by
 refine uFn 0 Tryz.f36 [] ?_ ?h; case h=>conv=>lhs; reduce; simp only [Int.reduceOfNat]
noncomputable def i37:IFn:=by
 refine uFn 0 Tryz.f37 [] ?_ ?h; case h=>conv=>lhs; reduce; simp only [Int.reduceOfNat]
noncomputable def i38:IFn:=by
 refine uFn 0 Tryz.f38 [] ?_ ?h; case h=>conv=>lhs; reduce; simp only [Int.reduceOfNat]
noncomputable def i39:IFn:=by
 refine uFn 2 Tryz.f39 [] ?_ ?h; case h=>conv=>lhs; reduce; simp only [Int.reduceOfNat]
noncomputable def i40:IFn:=by
 refine uFn 0 Tryz.f40 [([(7,[0])],[(1,5)])] ?_ ?h; case h=>conv=>lhs; reduce; simp only [Int.reduceOfNat]
noncomputable def i41:IFn:=by
 refine uFn 0 Tryz.f41 [] ?_ ?h; case h=>conv=>lhs; reduce; simp only [Int.reduceOfNat]
noncomputable def i42:IFn:=by
 refine uFn 0 Tryz.f42 [] ?_ ?h; case h=>conv=>lhs; reduce; simp only [Int.reduceOfNat]
noncomputable def i43:IFn:=by
 refine uFn 0 Tryz.f43 [] ?_ ?h; case h=>conv=>lhs; reduce; simp only [Int.reduceOfNat]
noncomputable def i44:IFn:=by
 refine uFn 0 Tryz.f44 [] ?_ ?h; case h=>conv=>lhs; reduce; simp only [Int.reduceOfNat]
noncomputable def i45:IFn:=by
 refine uFn 0 Tryz.f45 [([],[(3,7)])] ?_ ?h; case h=>conv=>lhs; reduce; simp only [Int.reduceOfNat]
noncomputable def i46:IFn:=by
 refine uFn 2 Tryz.f46 [([],[(4,6),(4,8),(6,8),(6,11),(8,11),(8,14)])] ?_ ?h; case h=>conv=>lhs; reduce; simp only [Int.reduceOfNat]
noncomputable def i47:IFn:=by
 refine uFn 0 Tryz.f47 [] ?_ ?h; case h=>conv=>lhs; reduce; simp only [Int.reduceOfNat]
noncomputable def i48:IFn:=by
 refine uFn 2 Tryz.f48 [] ?_ ?h; case h=>conv=>lhs; reduce; simp only [Int.reduceOfNat]
noncomputable def i49:IFn:=by
 refine uFn 0 Tryz.f49 [] ?_ ?h; case h=>conv=>lhs; reduce; simp only [Int.reduceOfNat]
noncomputable def i50:IFn:=by
 refine uFn 2 Tryz.f50 [] ?_ ?h; case h=>conv=>lhs; reduce; simp only [Int.reduceOfNat]
noncomputable def i51:IFn:=by
 refine uFn 0 Tryz.f51 [([(7,[0])],[(1,5)])] ?_ ?h; case h=>conv=>lhs; reduce; simp only [Int.reduceOfNat]
noncomputable def i52:IFn:=by
 refine uFn 0 Tryz.f52 [] ?_ ?h; case h=>conv=>lhs; reduce; simp only [Int.reduceOfNat]
noncomputable def i53:IFn:=by
 refine uFn 0 Tryz.f53 [] ?_ ?h; case h=>conv=>lhs; reduce; simp only [Int.reduceOfNat]
noncomputable def i54:IFn:=by
 refine uFn 0 Tryz.f54 [] ?_ ?h; case h=>conv=>lhs; reduce; simp only [Int.reduceOfNat]
noncomputable def i55:IFn:=by
 refine uFn 0 Tryz.f55 [] ?_ ?h; case h=>conv=>lhs; reduce; simp only [Int.reduceOfNat]
noncomputable def i56:IFn:=by
 refine uFn 2 Tryz.f56 [] ?_ ?h; case h=>conv=>lhs; reduce; simp only [Int.reduceOfNat]
noncomputable def i57:IFn:=by
 refine uFn 0 Tryz.f57 [] ?_ ?h; case h=>conv=>lhs; reduce; simp only [Int.reduceOfNat]
noncomputable def i58:IFn:=by
 refine uFn 2 Tryz.f58 [] ?_ ?h; case h=>conv=>lhs; reduce; simp only [Int.reduceOfNat]
noncomputable def i59:IFn:=by
 refine uFn 0 Tryz.f59 [] ?_ ?h; case h=>conv=>lhs; reduce; simp only [Int.reduceOfNat]
noncomputable def i60:IFn:=by
 refine uFn 2 Tryz.f60 [] ?_ ?h; case h=>conv=>lhs; reduce; simp only [Int.reduceOfNat]
noncomputable def i61:IFn:=by
 refine uFn 0 Tryz.f61 [] ?_ ?h; case h=>conv=>lhs; reduce; simp only [Int.reduceOfNat]
noncomputable def i62:IFn:=by
 refine uFn 0 Tryz.f62 [([],[(3,7)])] ?_ ?h; case h=>conv=>lhs; reduce; simp only [Int.reduceOfNat]
noncomputable def i63:IFn:=by
 refine uFn 2 Tryz.f63 [] ?_ ?h; case h=>conv=>lhs; reduce; simp only [Int.reduceOfNat]
noncomputable def i64:IFn:=by
 refine uFn 0 Tryz.f64 [([(7,[0])],[(1,5)])] ?_ ?h; case h=>conv=>lhs; reduce; simp only [Int.reduceOfNat]
def i65:IFn:=⟨33,[(.tmp 4)],(.seq (oZ 1 [oH 2 0 0,oR 4 (.mov (.const .nilsl))]) (.seq (oZ 0 [oR 5 (.mov (.const .nilsl))]) (.seq (.seq (oZ 0 [oM 10 1,oE 11 1 10,oK 12 0]) (.block 0 (.loop (.seq (oZ 0 [oB 13 .lss 12 11]) (.seq (oC 13 0) (.seq (.block 1 (.seq (oZ 0 [oD 14 1 10 12,oL 15 14,oM 7 15]) (.seq (oZ 0 [oM 16 7,oE 17 1 16,oK 18 0]) (.block 2 (.loop (.seq (oZ 0 [oB 19 .lss 18 17]) (.seq (oC 19 2) (.seq (.block 3 (.seq (oZ 1 [oD 20 5 16 18,oA 21 5 20,oR 9 (.newv [(.int .i64 0),(.int .i64 0),(.int .i64 0),(.str (bs [])),.nilsl] 0),oN (.store 5 (oT 9) (oT 21))]) (oZ 2 [oM 22 5,oF 23 1 2,oL 24 23,oA 25 5 9,oR 26 (.call (oT 24) [(oT 25)] 0),oR 27 (.bslice [(.int .i64 0)] 1 1 [(0,(1,(oT 26)))]),oR 28 (.append [(.int .i64 0)] 1 false (oT 22) (oT 27) 1),oM 5 28]))) (oZ 0 [oJ 29 .add 18 1,oM 18 29]))))))))) (oZ 0 [oJ 30 .add 12 1,oM 12 30]))))))) (.seq (oZ 1 [oM 31 5,oR 32 (.call (.const (.fn 95 [] [])) [(oT 31)] 0),oM 4 32]) .ret)))),0⟩
noncomputable def i66:IFn:=by
 refine uFn 0 Tryz.f66 [] ?_ ?h; case h=>conv=>lhs; reduce; simp only [Int.reduceOfNat]
noncomputable def i67:IFn:=by
 refine uFn 0 Tryz.f67 [] ?_ ?h; case h=>conv=>lhs; reduce; simp only [Int.reduceOfNat]
noncomputable def i68:IFn:=by
 refine uFn 0 Tryz.f68 [([(7,[0]),(8,[0,1])],[])] ?_ ?h; case h=>conv=>lhs; reduce; simp only [Int.reduceOfNat]
def i69:IFn:=⟨145,[(.tmp 10)],(.seq (oZ 2 [oH 8 3 0,oH 9 4 1,oR 10 (.mov (.const (.bool false)))]) (.seq (.seq (oZ 0 [oM 23 0]) (.block 0 (.seq (oZ 0 [oJ 25 .eql 23 1,oM 24 25]) (.cond (oT 24) (.seq (oZ 2 [oF 27 0 8,oA 28 3 27,oM 29 1,oR 30 (.call (.const (.fn 96 [] [])) [(oT 28),(oT 29)] 0),oM 26 30,oX 31 26 0,oX 32 26 1,oR 11 (.newv [(.int .i64 0),(.int .i64 0),(.int .i64 0)] 1),oN (.store 3 (oT 11) (oT 31)),oM 12 32]) (.seq (oZ 2 [oF 34 0 9,oA 35 3 34,oM 36 1,oR 37 (.call (.const (.fn 96 [] [])) [(oT 35),(oT 36)] 0),oM 33 37,oX 38 33 0,oX 39 33 1,oR 13 (.newv [(.int .i64 0),(.int .i64 0),(.int .i64 0)] 1),oN (.store 3 (oT 13) (oT 38)),oM 14 39]) (.seq (oZ 0 [oM 40 2,oJ 41 .gtr 40 0,oM 42 41,oG 43 (.faddr 1 (oT 11)) 42 false,oG 44 (.load true 2 (oT 43)) 42 false,oG 45 (.faddr 1 (oT 13)) 42 false,oG 46 (.load true 2 (oT 45)) 42 false,oG 47 (.eqagg false [1,1] (oT 44) (oT 46)) 42 false,oR 48 (.pick (oT 42) (.const (.bool true)) (oT 47)),oM 10 48]) .ret))) (.seq (oZ 0 [oJ 50 .eql 23 2,oM 49 50]) (.cond (oT 49) (.seq (oZ 2 [oF 52 0 8,oA 53 3 52,oM 54 1,oR 55 (.call (.const (.fn 97 [] [])) [(oT 53),(oT 54)] 0),oM 51 55,oX 56 51 0,oX 57 51 1,oR 15 (.newv [(.int .i64 0),(.int .i64 0),(.int .i64 0),.nilsl,(.int .i64 0),(.int .i64 0)] 1),oN (.store 6 (oT 15) (oT 56)),oM 16 57]) (.seq (oZ 2 [oF 59 0 9,oA 60 3 59,oM 61 1,oR 62 (.call (.const (.fn 97 [] [])) [(oT 60),(oT 61)] 0),oM 58 62,oX 63 58 0,oX 64 58 1,oR 17 (.newv [(.int .i64 0),(.int .i64 0),(.int .i64 0),.nilsl,(.int .i64 0),(.int .i64 0)] 1),oN (.store 6 (oT 17) (oT 63)),oM 18 64]) (.seq (.seq (oZ 0 [oM 65 2,oJ 66 .eql 65 0]) (.cond (oT 66) (.seq (oZ 1 [oF 67 1 15,oL 68 67,oF 69 1 17,oL 70 69,oB 71 .eql 68 70,oM 72 71,oG 73 (.faddr 2 (oT 15)) 72 true,oG 74 (.load false 1 (oT 73)) 72 true,oG 75 (.faddr 2 (oT 17)) 72 true,oG 76 (.load false 1 (oT 75)) 72 true,oG 77 (.bin .eql (oT 74) (oT 76)) 72 true,oR 78 (.pick (oT 72) (oT 77) (.const (.bool false))),oM 79 78,oG 80 (.faddr 3 (oT 15)) 79 true,oG 81 (.load false 1 (oT 80)) 79 true,oG 82 (.faddr 3 (oT 17)) 79 true,oG 83 (.load false 1 (oT 82)) 79 true,oG 84 (.call (.const (.fn 98 [] [])) [(oT 81),(oT 83)] 0) 79 true,oR 85 (.pick (oT 79) (oT 84) (.const (.bool false))),oM 10 85]) .ret) .skip)) (.seq (oZ 0 [oM 86 2,oJ 87 .neq 86 1,oM 88 87,oG 89 (.faddr 4 (oT 15)) 88 false,oG 90 (.load false 1 (oT 89)) 88 false,oG 91 (.faddr 4 (oT 17)) 88 false,oG 92 (.load false 1 (oT 91)) 88 false,oG 93 (.bin .eql (oT 90) (oT 92)) 88 false,oR 94 (.pick (oT 88) (.const (.bool true)) (oT 93)),oM 95 94,oG 96 (.mov (oT 2)) 95 true,oG 97 (.bin .neq (oT 96) (oI 2)) 95 true,oG 98 (.mov (oT 97)) 95 true,oG 99 (.faddr 5 (oT 15)) 98 false,oG 100 (.load false 1 (oT 99)) 98 false,oG 101 (.faddr 5 (oT 17)) 98 false,oG 102 (.load false 1 (oT 101)) 98 false,oG 103 (.bin .eql (oT 100) (oT 102)) 98 false,oG 104 (.pick (oT 98) (.const (.bool true)) (oT 103)) 95 true,oR 105 (.pick (oT 95) (oT 104) (.const (.bool false))),oM 10 105]) .ret)))) .skip)))))) (.seq (oZ 2 [oA 107 4 8,oM 108 1,oR 109 (.call (.const (.fn 99 [] [])) [(oT 107),(oT 108)] 0),oM 106 109,oX 110 106 0,oX 111 106 1,oR 19 (.newv [(.int .i64 0),(.int .i64 0),(.int .i64 0),(.str (bs [])),.nilsl] 1),oN (.store 5 (oT 19) (oT 110)),oM 20 111]) (.seq (oZ 2 [oA 113 4 9,oM 114 1,oR 115 (.call (.const (.fn 99 [] [])) [(oT 113),(oT 114)] 0),oM 112 115,oX 116 112 0,oX 117 112 1,oR 21 (.newv [(.int .i64 0),(.int .i64 0),(.int .i64 0),(.str (bs [])),.nilsl] 1),oN (.store 5 (oT 21) (oT 116)),oM 22 117]) (.seq (.seq (oZ 0 [oM 118 2]) (.block 1 (.seq (oZ 0 [oJ 120 .eql 118 0,oM 119 120]) (.cond (oT 119) (.seq (oZ 0 [oF 121 1 19,oL 122 121,oF 123 1 21,oL 124 123,oB 125 .eql 122 124,oM 10 125]) .ret) (.seq (oZ 0 [oJ 127 .eql 118 1,oM 126 127]) (.cond (oT 126) (.seq (oZ 0 [oF 128 2 19,oL 129 128,oF 130 2 21,oL 131 130,oB 132 .eql 129 131,oM 10 132]) .ret) (.seq (oZ 0 [oJ 134 .eql 118 2,oM 133 134]) (.cond (oT 133) (.seq (oZ 0 [oF 135 3 19,oL 136 135,oF 137 3 21,oL 138 137,oB 139 .eql 136 138,oM 10 139]) .ret) .skip)))))))) (.seq (oZ 1 [oF 140 4 19,oL 141 140,oF 142 4 21,oL 143 142,oR 144 (.call (.const (.fn 94 [] [])) [(oT 141),(oT 143)] 0),oM 10 144]) .ret)))))),0⟩
noncomputable def i74:IFn:=by
 refine uFn 1 Tryz.f74 [([(5,[0]),(8,[0,1]),(9,[0,1,2]),(10,[0,1,2]),(11,[0,1,2])],[(0,3),(2,3),(0,6),(2,6),(3,6),(5,6)])] ?_ ?h; case h=>conv=>lhs; reduce; simp only [Int.reduceOfNat]
noncomputable def i75:IFn:=by
 refine uFn 1 Tryz.f75 [([(5,[0]),(8,[0,1]),(9,[0,1,2]),(10,[0,1,2]),(11,[0,1,2])],[(0,3),(2,3),(0,6),(2,6),(3,6),(5,6)])] ?_ ?h; case h=>conv=>lhs; reduce; simp only [Int.reduceOfNat]
def i76:IFn:=⟨69,[(.tmp 8),(.tmp 9)],(.seq (oZ 1 [oH 4 0 0,oR 8 (.mov (.const .nilsl)),oR 9 (.mov (.const .nilsl))]) (.seq (.region true 3 [oA 18 3 4,oM 19 1,oR 20 (.call (.const (.fn 64 [] [])) [(oT 18),(oT 19)] 0),oA 21 3 4,oM 22 2,⟨(.some 23),(.call (.const (.fn 64 [] [])) [(oT 21),(oT 22)] 1),.none,[0]⟩,oA 24 3 4,oM 25 3,⟨(.some 26),(.call (.const (.fn 64 [] [])) [(oT 24),(oT 25)] 2),.none,[0,1]⟩,⟨(.some 10),(.mov (oT 20)),.none,[0,1,2]⟩,⟨(.some 11),(.mov (oT 23)),.none,[0,1,2]⟩,⟨(.some 12),(.mov (oT 26)),.none,[0,1,2]⟩] [(0,3),(2,3),(0,6),(2,6),(3,6),(5,6)]) (.seq (.seq (oZ 1 [oA 27 3 4,oM 28 1,oM 29 2,oM 30 3,oR 31 (.bslice [.nilsl] 1 3 [(0,(1,(oT 28))),(1,(1,(oT 29))),(2,(1,(oT 30)))]),oR 32 (.call (.const (.fn 65 [] [])) [(oT 27),(oT 31)] 0),oE 33 1 32,oK 34 0]) (.block 0 (.loop (.seq (oZ 0 [oB 35 .lss 34 33]) (.seq (oC 35 0) (.seq (.block 1 (.seq (oZ 0 [oD 36 1 32 34,oL 37 36,oM 14 37]) (.seq (oZ 2 [oA 39 3 4,oM 40 10,oM 41 14,oR 42 (.lookup .nilptr (false,[1]) false (oT 40) (oT 41)),oM 43 11,oM 44 14,oR 45 (.lookup .nilptr (false,[1]) false (oT 43) (oT 44)),oM 46 12,oM 47 14,oR 48 (.lookup .nilptr (false,[1]) false (oT 46) (oT 47)),oR 49 (.call (.const (.fn 118 [] [])) [(oT 39),(oT 42),(oT 45),(oT 48)] 0),oM 38 49,oX 50 38 0,oX 51 38 1,oX 52 38 2,oR 15 (.newv [(.int .i64 0),(.int .i64 0),(.int .i64 0),(.str (bs [])),.nilsl] 1),oN (.store 5 (oT 15) (oT 50)),oM 16 51,oM 17 52]) (.seq (.seq (oZ 0 [oM 53 16]) (.cond (oT 53) (oZ 1 [oM 54 8,oA 55 5 15,oR 56 (.bslice [(.int .i64 0),(.int .i64 0),(.int .i64 0),(.str (bs [])),.nilsl] 5 1 [(0,(5,(oT 55)))]),oR 57 (.append [(.int .i64 0),(.int .i64 0),(.int .i64 0),(.str (bs [])),.nilsl] 5 false (oT 54) (oT 56) 0),oM 8 57]) .skip)) (.seq (oZ 0 [oM 58 17]) (.cond (oT 58) (oZ 1 [oM 59 9,oF 60 0 4,oL 61 60,oM 62 14,oR 63 (.build [(.int .i64 0),(.int .i64 0)] [(0,(1,(oT 61))),(1,(1,(oT 62)))]),oR 64 (.bslice [(.int .i64 0),(.int .i64 0)] 2 1 [(0,(2,(oT 63)))]),oR 65 (.append [(.int .i64 0),(.int .i64 0)] 2 false (oT 59) (oT 64) 0),oM 9 65]) .skip)))))) (oZ 0 [oJ 66 .add 34 1,oM 34 66]))))))) (.seq (oZ 0 [oM 67 8,oM 68 9,oM 8 67,oM 9 68]) .ret)))),1⟩
noncomputable def i77:IFn:=by
 refine uFn 0 Tryz.f77 [] ?_ ?h; case h=>conv=>lhs; reduce; simp only [Int.reduceOfNat]
noncomputable def i78:IFn:=by
 refine uFn 0 Tryz.f78 [] ?_ ?h; case h=>conv=>lhs; reduce; simp only [Int.reduceOfNat]
noncomputable def i79:IFn:=by
 refine uFn 0 Tryz.f79 [] ?_ ?h; case h=>conv=>lhs; reduce; simp only [Int.reduceOfNat]
noncomputable def i80:IFn:=by
 refine uFn 0 Tryz.f80 [] ?_ ?h; case h=>conv=>lhs; reduce; simp only [Int.reduceOfNat]
noncomputable def i81:IFn:=by
 refine uFn 0 Tryz.f81 [] ?_ ?h; case h=>conv=>lhs; reduce; simp only [Int.reduceOfNat]
noncomputable def i82:IFn:=by
 refine uFn 2 Tryz.f82 [] ?_ ?h; case h=>conv=>lhs; reduce; simp only [Int.reduceOfNat]
noncomputable def i83:IFn:=by
 refine uFn 0 Tryz.f83 [] ?_ ?h; case h=>conv=>lhs; reduce; simp only [Int.reduceOfNat]
noncomputable def i84:IFn:=by
 refine uFn 0 Tryz.f84 [] ?_ ?h; case h=>conv=>lhs; reduce; simp only [Int.reduceOfNat]
noncomputable def i85:IFn:=by
 refine uFn 0 Tryz.f85 [] ?_ ?h; case h=>conv=>lhs; reduce; simp only [Int.reduceOfNat]
def i86:IFn:=⟨12,[(.tmp 2)],(.seq (oZ 1 [oH 1 0 0,oR 2 (.mov (.const (.bool false)))]) (.seq (oZ 1 [oF 3 3 1,oL 4 3,oR 5 (.bin .neq (oT 4) (.const (.str (bs [])))),oM 6 5,oG 7 (.faddr 3 (oT 1)) 6 true,oG 8 (.load false 1 (oT 7)) 6 true,oG 9 (.call (.const (.fn 87 [] [])) [(oT 8)] 0) 6 true,oG 10 (.bin .neq (oT 9) (oI 0)) 6 true,oR 11 (.pick (oT 6) (oT 10) (.const (.bool false))),oM 2 11]) .ret)),0⟩
noncomputable def i87:IFn:=by
 refine uFn 0 Tryz.f87 [] ?_ ?h; case h=>conv=>lhs; reduce; simp only [Int.reduceOfNat]
noncomputable def i88:IFn:=by
 refine uFn 0 Tryz.f88 [] ?_ ?h; case h=>conv=>lhs; reduce; simp only [Int.reduceOfNat]
noncomputable def i89:IFn:=by
 refine uFn 0 Tryz.f89 [] ?_ ?h; case h=>conv=>lhs; reduce; simp only [Int.reduceOfNat]
noncomputable def i90:IFn:=by
 refine uFn 0 Tryz.f90 [] ?_ ?h; case h=>conv=>lhs; reduce; simp only [Int.reduceOfNat]
noncomputable def i91:IFn:=by
 refine uFn 2 Tryz.f91 [] ?_ ?h; case h=>conv=>lhs; reduce; simp only [Int.reduceOfNat]
noncomputable def i92:IFn:=by
 refine uFn 2 Tryz.f92 [] ?_ ?h; case h=>conv=>lhs; reduce; simp only [Int.reduceOfNat]
noncomputable def i93:IFn:=by
 refine uFn 0 Tryz.f93 [] ?_ ?h; case h=>conv=>lhs; reduce; simp only [Int.reduceOfNat]
noncomputable def i94:IFn:=by
 refine uFn 0 Tryz.f94 [([],[(3,7)])] ?_ ?h; case h=>conv=>lhs; reduce; simp only [Int.reduceOfNat]
noncomputable def i95:IFn:=by
 refine uFn 0 Tryz.f95 [] ?_ ?h; case h=>conv=>lhs; reduce; simp only [Int.reduceOfNat]
noncomputable def i96:IFn:=by
 refine uFn 0 Tryz.f96 [] ?_ ?h; case h=>conv=>lhs; reduce; simp only [Int.reduceOfNat]
noncomputable def i97:IFn:=by
 refine uFn 0 Tryz.f97 [] ?_ ?h; case h=>conv=>lhs; reduce; simp only [Int.reduceOfNat]
noncomputable def i98:IFn:=by
 refine uFn 0 Tryz.f98 [([],[(3,7)])] ?_ ?h; case h=>conv=>lhs; reduce; simp only [Int.reduceOfNat]
def i99:IFn:=⟨35,[(.cell true 5 4),(.tmp 5)],(.seq (oZ 2 [oH 2 0 0,oR 4 (.newv [(.int .i64 0),(.int .i64 0),(.int .i64 0),(.str (bs [])),.nilsl] 1),oR 5 (.mov (.const (.bool false)))]) (.seq (.seq (oZ 0 [oK 6 0]) (.block 0 (.loop (.seq (.seq (oZ 0 [oM 8 6,oF 9 3 2,oL 10 9,oE 11 1 10,oB 12 .lss 8 11]) (oC 12 0)) (.seq (.block 1 (.seq (oZ 0 [oF 15 3 2,oL 16 15,oM 17 6,oD 18 5 16 17,oF 19 0 18,oL 20 19,oM 21 1,oB 22 .eql 20 21]) (.cond (oT 22) (.seq (oZ 1 [oF 23 3 2,oL 24 23,oM 25 6,oD 26 5 24 25,oA 27 5 26,oR 7 (.newv [(.int .i64 0),(.int .i64 0),(.int .i64 0),(.str (bs [])),.nilsl] 0),oN (.store 5 (oT 7) (oT 27))]) (.seq (oZ 1 [oR 28 (.bslice [(.int .i64 0)] 1 0 []),oF 29 4 7,oL 30 29,oR 31 (.append [(.int .i64 0)] 1 false (oT 28) (oT 30) 0),oF 32 4 7,oN (.store 1 (oT 32) (oT 31))]) (.seq (oZ 0 [oA 33 5 7,oN (.store 5 (oT 4) (oT 33)),oR 5 (.mov (.const (.bool true)))]) .ret))) .skip))) (oZ 0 [oM 13 6,oJ 14 .add 13 1,oM 6 14])))))) (.seq (oZ 0 [oR 34 (.build [(.int .i64 0),(.int .i64 0),(.int .i64 0),(.str (bs [])),.nilsl] []),oN (.store 5 (oT 4) (oT 34)),oR 5 (.mov (.const (.bool false)))]) .ret))),0⟩
noncomputable def i116:IFn:=by
 refine uFn 0 Tryz.f116 [([(8,[0])],[(0,3),(0,6),(3,6)]),([(9,[0])],[(1,4),(1,7),(4,7)]),([(12,[0]),(13,[0])],[(4,7),(4,10),(7,10)]),([],[(1,4)]),([(12,[0]),(13,[0])],[(4,7),(4,10),(7,10)])] ?_ ?h; case h=>conv=>lhs; reduce; simp only [Int.reduceOfNat]
noncomputable def i117:IFn:=by
 refine uFn 0 Tryz.f117 [([(8,[0])],[(0,3),(0,6),(3,6)]),([(9,[0])],[(1,4),(1,7),(4,7)]),([(12,[0]),(13,[0])],[(4,7),(4,10),(7,10)]),([],[(1,4)]),([(12,[0]),(13,[0])],[(4,7),(4,10),(7,10)])] ?_ ?h; case h=>conv=>lhs; reduce; simp only [Int.reduceOfNat]
def i118:IFn:=⟨111,[(.cell true 5 8),(.tmp 9),(.tmp 10)],(.seq (oZ 2 [oH 4 0 0,oR 8 (.newv [(.int .i64 0),(.int .i64 0),(.int .i64 0),(.str (bs [])),.nilsl] 1),oR 9 (.mov (.const (.bool false))),oR 10 (.mov (.const (.bool false)))]) (.seq (.seq (oZ 0 [oM 14 2,oR 15 (.eqp false (oT 14) (.const .nilptr)),oM 16 15,oG 17 (.mov (oT 3)) 16 true,oG 18 (.eqp false (oT 17) (.const .nilptr)) 16 true,oR 19 (.pick (oT 16) (oT 18) (.const (.bool false)))]) (.cond (oT 19) (.seq (oZ 0 [oA 20 5 8,oN (.store 5 (oT 8) (oT 20)),oR 9 (.mov (.const (.bool false))),oR 10 (.mov (.const (.bool false)))]) .ret) .skip)) (.seq (.seq (oZ 0 [oM 21 2,oR 22 (.eqp false (oT 21) (.const .nilptr)),oM 23 22,oG 24 (.mov (oT 3)) 23 false,oG 25 (.eqp false (oT 24) (.const .nilptr)) 23 false,oR 26 (.pick (oT 23) (.const (.bool true)) (oT 25))]) (.cond (oT 26) (.seq (oZ 0 [oM 27 2,oM 11 27]) (.seq (.seq (oZ 0 [oM 28 11,oR 29 (.eqp false (oT 28) (.const .nilptr))]) (.cond (oT 29) (oZ 0 [oM 30 3,oM 11 30]) .skip)) (.seq (.block 0 (.seq (oZ 0 [oM 32 1,oR 33 (.eqp false (oT 32) (.const .nilptr)),oM 31 33]) (.cond (oT 31) (.seq (oZ 0 [oM 34 11,oR 35 (.nilchk (oT 34)),oA 36 5 35,oN (.store 5 (oT 8) (oT 36)),oR 9 (.mov (.const (.bool true))),oR 10 (.mov (.const (.bool false)))]) .ret) (.seq (.region true 1 [oA 38 3 4,oM 39 1,oR 40 (.nilchk (oT 39)),oA 41 5 40,oM 42 11,oR 43 (.nilchk (oT 42)),oA 44 5 43,oR 45 (.call (.const (.fn 66 [] [])) [(oT 38),(oT 41),(oT 44)] 0),⟨(.some 37),(.mov (oT 45)),.none,[0]⟩] [(0,3),(0,6),(3,6)]) (.cond (oT 37) (.seq (oZ 0 [oA 46 5 8,oN (.store 5 (oT 8) (oT 46)),oR 9 (.mov (.const (.bool false))),oR 10 (.mov (.const (.bool false)))]) .ret) (.seq (oZ 0 [oM 48 2,oR 49 (.eqp false (oT 48) (.const .nilptr)),oM 47 49]) (.cond (oT 47) (.seq (oZ 0 [oA 50 5 8,oN (.store 5 (oT 8) (oT 50)),oR 9 (.mov (.const (.bool false))),oR 10 (.mov (.const (.bool true)))]) .ret) .skip))))))) (.seq (oZ 0 [oM 51 2,oR 52 (.nilchk (oT 51)),oA 53 5 52,oN (.store 5 (oT 8) (oT 53)),oR 9 (.mov (.const (.bool true))),oR 10 (.mov (.const (.bool true)))]) .ret)))) .skip)) (.seq (oZ 0 [oM 54 2,oR 55 (.nilchk (oT 54)),oA 56 5 55,oN (.store 5 (oT 8) (oT 56))]) (.seq (.seq (oZ 0 [oF 57 2 4,oL 58 57,oE 59 1 58,oK 60 0]) (.block 1 (.loop (.seq (oZ 0 [oB 61 .lss 60 59]) (.seq (oC 61 1) (.seq (.block 2 (.seq (oZ 1 [oD 62 2 58 60,oA 63 2 62,oR 13 (.newv [.nilfn,.nilfn] 0),oN (.store 2 (oT 13) (oT 63))]) (.block 3 (.seq (.region true 1 [oF 65 0 13,oL 66 65,oM 67 2,oR 68 (.nilchk (oT 67)),oA 69 5 68,oM 70 3,oR 71 (.nilchk (oT 70)),oA 72 5 71,oR 73 (.call (oT 66) [(oT 69),(oT 72)] 0),⟨(.some 64),(.mov (oT 73)),.none,[0]⟩] [(1,4),(1,7),(4,7)]) (.cond (oT 64) .skip (.seq (.region true 1 [oM 75 1,oR 76 (.eqp true (oT 75) (.const .nilptr)),oM 77 76,oG 78 (.faddr 0 (oT 13)) 77 true,oG 79 (.load false 1 (oT 78)) 77 true,oG 80 (.mov (oT 1)) 77 true,oG 81 (.nilchk (oT 80)) 77 true,oG 82 (.load true 5 (oT 81)) 77 true,oG 83 (.mov (oT 2)) 77 true,oG 84 (.nilchk (oT 83)) 77 true,oG 85 (.load true 5 (oT 84)) 77 true,oG 86 (.call (oT 79) [(oT 82),(oT 85)] 0) 77 true,⟨(.some 87),(.pick (oT 77) (oT 86) (.const (.bool false))),.none,[0]⟩,⟨(.some 74),(.mov (oT 87)),.none,[0]⟩] [(4,7),(4,10),(7,10)]) (.cond (oT 74) (.region true 1 [oF 88 1 13,oL 89 88,oM 90 3,oR 91 (.nilchk (oT 90)),oA 92 5 91,oR 93 (.call (oT 89) [(oT 8),(oT 92)] 0)] [(1,4)]) (.seq (.region true 1 [oM 95 1,oR 96 (.eqp true (oT 95) (.const .nilptr)),oM 97 96,oG 98 (.faddr 0 (oT 13)) 97 true,oG 99 (.load false 1 (oT 98)) 97 true,oG 100 (.mov (oT 1)) 97 true,oG 101 (.nilchk (oT 100)) 97 true,oG 102 (.load true 5 (oT 101)) 97 true,oG 103 (.mov (oT 3)) 97 true,oG 104 (.nilchk (oT 103)) 97 true,oG 105 (.load true 5 (oT 104)) 97 true,oG 106 (.call (oT 99) [(oT 102),(oT 105)] 0) 97 true,⟨(.some 107),(.pick (oT 97) (oT 106) (.const (.bool false))),.none,[0]⟩,⟨(.some 94),(.mov (oT 107)),.none,[0]⟩] [(4,7),(4,10),(7,10)]) (.cond (oT 94) .skip (oZ 0 [oR 10 (.mov (.const (.bool true)))])))))))))) (oZ 0 [oJ 108 .add 60 1,oM 60 108]))))))) (.seq (oZ 0 [oA 109 5 8,oM 110 10,oN (.store 5 (oT 8) (oT 109)),oR 9 (.mov (.const (.bool true))),oM 10 110]) .ret)))))),0⟩
noncomputable def i119:IFn:=by
 refine uFn 1 Tryz.f119 [] ?_ ?h; case h=>conv=>lhs; reduce; simp only [Int.reduceOfNat]
noncomputable def i120:IFn:=by
 refine uFn 0 Tryz.f120 [] ?_ ?h; case h=>conv=>lhs; reduce; simp only [Int.reduceOfNat]
noncomputable def i121:IFn:=by
 refine uFn 0 Tryz.f121 [] ?_ ?h; case h=>conv=>lhs; reduce; simp only [Int.reduceOfNat]
noncomputable def i122:IFn:=by
 refine uFn 0 Tryz.f122 [] ?_ ?h; case h=>conv=>lhs; reduce; simp only [Int.reduceOfNat]
noncomputable def i123:IFn:=by
 refine uFn 0 Tryz.f123 [] ?_ ?h; case h=>conv=>lhs; reduce; simp only [Int.reduceOfNat]
noncomputable def i124:IFn:=by
 refine uFn 2 Tryz.f124 [([(18,[0]),(19,[0]),(20,[0])],[(4,5),(4,11),(5,11),(9,11)])] ?_ ?h; case h=>conv=>lhs; reduce; simp only [Int.reduceOfNat]
noncomputable def i125:IFn:=by
 refine uFn 0 Tryz.f125 [([],[(4,8)])] ?_ ?h; case h=>conv=>lhs; reduce; simp only [Int.reduceOfNat]
def i126:IFn:=⟨45,[(.tmp 2),(.tmp 3)],(.seq (oZ 0 [oR 2 (.mov (.const .nilsl)),oK 3 0]) (.seq (.seq (oZ 0 [oM 6 0,oR 7 (.bin .eql (oT 6) (.const (.str (bs []))))]) (.cond (oT 7) (.seq (oZ 0 [oR 2 (.mov (.const .nilsl)),oK 3 14]) .ret) .skip)) (.seq (.seq (oZ 0 [oM 8 0,oE 9 0 8,oJ 10 .gtr 9 40]) (.cond (oT 10) (.seq (oZ 0 [oR 2 (.mov (.const .nilsl)),oK 3 3]) .ret) .skip)) (.seq (oZ 1 [oM 12 0,oR 13 (.call (.const (.fn 159 [] [])) [(oT 12)] 0),oM 11 13,oX 14 11 0,oX 15 11 1,oM 2 14,oM 3 15]) (.seq (.seq (oZ 0 [oM 16 3,oJ 17 .neq 16 0]) (.cond (oT 17) (.seq (oZ 0 [oM 18 3,oR 2 (.mov (.const .nilsl)),oM 3 18]) .ret) .skip)) (.seq (.seq (oZ 1 [oM 19 0,oR 20 (.indexS (oT 19) (oI 0)),oR 21 (.bin .eql (oT 20) (.const (.int .u8 32))),oM 22 21,oG 23 (.mov (oT 0)) 22 false,oG 24 (.mov (oT 0)) 22 false,oG 25 (.len 0 (oT 24)) 22 false,oG 26 (.bin .sub (oT 25) (oI 1)) 22 false,oG 27 (.indexS (oT 23) (oT 26)) 22 false,oG 28 (.bin .eql (oT 27) (.const (.int .u8 32))) 22 false,oR 29 (.pick (oT 22) (.const (.bool true)) (oT 28)),oM 30 29,oG 31 (.mov (oT 0)) 30 false,oG 32 (.call (.const (.fn 160 [] [])) [(oT 31),(.const (.str (bs [32,32])))] 0) 30 false,oR 33 (.pick (oT 30) (.const (.bool true)) (oT 32))]) (.cond (oT 33) (.seq (oZ 0 [oR 2 (.mov (.const .nilsl)),oK 3 14]) .ret) .skip)) (.seq (.seq (oZ 0 [oM 34 2,oE 35 1 34,oK 36 0]) (.block 0 (.loop (.seq (oZ 0 [oB 37 .lss 36 35]) (.seq (oC 37 0) (.seq (.block 1 (.seq (oZ 0 [oD 38 1 34 36,oL 39 38,oM 5 39]) (.seq (oZ 1 [oM 40 5,oR 41 (.call (.const (.fn 161 [] [])) [(oT 40)] 0),oJ 42 .neq 41 0]) (.cond (oT 42) (.seq (oZ 0 [oM 43 2,oM 2 43,oK 3 0]) .ret) .skip)))) (oZ 0 [oJ 44 .add 36 1,oM 36 44]))))))) (.seq (oZ 0 [oR 2 (.mov (.const .nilsl)),oK 3 14]) .ret)))))))),0⟩
noncomputable def i127:IFn:=by
 refine uFn 0 Tryz.f127 [] ?_ ?h; case h=>conv=>lhs; reduce; simp only [Int.reduceOfNat]
noncomputable def i128:IFn:=by
 refine uFn 0 Tryz.f128 [] ?_ ?h; case h=>conv=>lhs; reduce; simp only [Int.reduceOfNat]
noncomputable def i129:IFn:=by
 refine uFn 0 Tryz.f129 [] ?_ ?h; case h=>conv=>lhs; reduce; simp only [Int.reduceOfNat]
noncomputable def i130:IFn:=by
 refine uFn 0 Tryz.f130 [] ?_ ?h; case h=>conv=>lhs; reduce; simp only [Int.reduceOfNat]
noncomputable def i131:IFn:=by
 refine uFn 0 Tryz.f131 [] ?_ ?h; case h=>conv=>lhs; reduce; simp only [Int.reduceOfNat]
noncomputable def i132:IFn:=by
 refine uFn 2 Tryz.f132 [] ?_ ?h; case h=>conv=>lhs; reduce; simp only [Int.reduceOfNat]
noncomputable def i133:IFn:=by
 refine uFn 2 Tryz.f133 [] ?_ ?h; case h=>conv=>lhs; reduce; simp only [Int.reduceOfNat,Int.reduceNegSucc]
noncomputable def i150:IFn:=by
 refine uFn 1 Tryz.f150 [] ?_ ?h; case h=>conv=>lhs; reduce; simp only [Int.reduceOfNat]
noncomputable def i151:IFn:=by
 refine uFn 2 Tryz.f151 [] ?_ ?h; case h=>conv=>lhs; reduce; simp only [Int.reduceOfNat]
noncomputable def i152:IFn:=by
 refine uFn 2 Tryz.f152 [([],[(3,8)]),([],[(3,8)])] ?_ ?h; case h=>conv=>lhs; reduce; simp only [Int.reduceOfNat]
noncomputable def i153:IFn:=by
 refine uFn 0 Tryz.f153 [] ?_ ?h; case h=>conv=>lhs; reduce; simp only [Int.reduceOfNat]
noncomputable def i154:IFn:=by
 refine uFn 0 Tryz.f154 [] ?_ ?h; case h=>conv=>lhs; reduce; simp only [Int.reduceOfNat]
noncomputable def i155:IFn:=by
 refine uFn 0 Tryz.f155 [([(6,[0])],[(0,5)])] ?_ ?h; case h=>conv=>lhs; reduce; simp only [Int.reduceOfNat]
noncomputable def i156:IFn:=by
 refine uFn 0 Tryz.f156 [] ?_ ?h; case h=>conv=>lhs; reduce; simp only [Int.reduceOfNat]
noncomputable def i157:IFn:=by
 refine uFn 0 Tryz.f157 [([],[(3,6)]),([(11,[0]),(12,[0]),(13,[0])],[(6,8)])] ?_ ?h; case h=>conv=>lhs; reduce; simp only [Int.reduceOfNat]
noncomputable def i158:IFn:=by
 refine uFn 0 Tryz.f158 [([(6,[0])],[(0,2),(0,4)]),([],[(2,4),(2,5)])] ?_ ?h; case h=>conv=>lhs; reduce; simp only [Int.reduceOfNat]
noncomputable def i160:IFn:=by
 refine uFn 0 Tryz.f160 [] ?_ ?h; case h=>conv=>lhs; reduce; simp only [Int.reduceOfNat]
noncomputable def i162:IFn:=by
 refine uFn 0 Tryz.f162 [] ?_ ?h; case h=>conv=>lhs; reduce; simp only [Int.reduceOfNat,Int.reduceNegSucc]
noncomputable def i163:IFn:=by
 refine uFn 0 Tryz.f163 [] ?_ ?h; case h=>conv=>lhs; reduce; simp only [Int.reduceOfNat]
noncomputable def i164:IFn:=by
 refine uFn 0 Tryz.f164 [] ?_ ?h; case h=>conv=>lhs; reduce; simp only [Int.reduceOfNat]
noncomputable def i182:IFn:=by
 refine uFn 1 Tryz.f182 [] ?_ ?h; case h=>conv=>lhs; reduce; simp only [Int.reduceOfNat]
noncomputable def i183:IFn:=by
 refine uFn 2 Tryz.f183 [([(13,[0]),(14,[0])],[(7,11)])] ?_ ?h; case h=>conv=>lhs; reduce; simp only [Int.reduceOfNat]
noncomputable def i184:IFn:=by
 refine uFn 0 Tryz.f184 [] ?_ ?h; case h=>conv=>lhs; reduce; simp only [Int.reduceOfNat]
noncomputable def i185:IFn:=by
 refine uFn 0 Tryz.f185 [] ?_ ?h; case h=>conv=>lhs; reduce; simp only [Int.reduceOfNat]
noncomputable def i186:IFn:=by
 refine uFn 0 Tryz.f186 [] ?_ ?h; case h=>conv=>lhs; reduce; simp only [Int.reduceOfNat]
noncomputable def i187:IFn:=by
 refine uFn 0 Tryz.f187 [([],[(2,5)]),([],[(2,6),(2,9)])] ?_ ?h; case h=>conv=>lhs; reduce; simp only [Int.reduceOfNat]
noncomputable def i188:IFn:=by
 refine uFn 0 Tryz.f188 [] ?_ ?h; case h=>conv=>lhs; reduce; simp only [Int.reduceOfNat]
noncomputable def i189:IFn:=by
 refine uFn 2 Tryz.f189 [] ?_ ?h; case h=>conv=>lhs; reduce; simp only [Int.reduceOfNat]
noncomputable def i190:IFn:=by
 refine uFn 0 Tryz.f190 [] ?_ ?h; case h=>conv=>lhs; reduce; simp only [Int.reduceOfNat]
noncomputable def i191:IFn:=by
 refine uFn 0 Tryz.f191 [([],[(5,11),(5,18),(11,18),(5,23),(11,23),(18,23)])] ?_ ?h; case h=>conv=>lhs; reduce; simp only [Int.reduceOfNat]
noncomputable def i192:IFn:=by
 refine uFn 0 Tryz.f192 [([(24,[0])],[(7,12),(21,22)])] ?_ ?h; case h=>conv=>lhs; reduce; simp only [Int.reduceOfNat]
noncomputable def i193:IFn:=by
 refine uFn 0 Tryz.f193 [] ?_ ?h; case h=>conv=>lhs; reduce; simp only [Int.reduceOfNat]
noncomputable def i194:IFn:=by
 refine uFn 0 Tryz.f194 [] ?_ ?h; case h=>conv=>lhs; reduce; simp only [Int.reduceOfNat]
noncomputable def i195:IFn:=by
 refine uFn 0 Tryz.f195 [] ?_ ?h; case h=>conv=>lhs; reduce; simp only [Int.reduceOfNat]
noncomputable def i196:IFn:=by
 refine uFn 0 Tryz.f196 [] ?_ ?h; case h=>conv=>lhs; reduce; simp only [Int.reduceOfNat]
noncomputable def i197:IFn:=by
 refine uFn 0 Tryz.f197 [] ?_ ?h; case h=>conv=>lhs; reduce; simp only [Int.reduceOfNat,Int.reduceNegSucc]
noncomputable def i207:IFn:=by
 refine uFn 2 Tryz.f207 [([(14,[0])],[(7,12)]),([],[(9,13)])] ?_ ?h; case h=>conv=>lhs; reduce; simp only [Int.reduceOfNat]
noncomputable def i208:IFn:=by
 refine uFn 2 Tryz.f208 [([],[(11,15)])] ?_ ?h; case h=>conv=>lhs; reduce; simp only [Int.reduceOfNat]
noncomputable def i209:IFn:=by
 refine uFn 2 Tryz.f209 [([],[(11,15)])] ?_ ?h; case h=>conv=>lhs; reduce; simp only [Int.reduceOfNat]
noncomputable def i210:IFn:=by
 refine uFn 2 Tryz.f210 [] ?_ ?h; case h=>conv=>lhs; reduce; simp only [Int.reduceOfNat]
noncomputable def i211:IFn:=by
 refine uFn 2 Tryz.f211 [([],[(7,11)])] ?_ ?h; case h=>conv=>lhs; reduce; simp only [Int.reduceOfNat]
noncomputable def i212:IFn:=by
 refine uFn 2 Tryz.f212 [([(14,[0]),(15,[0])],[(7,12)]),([],[(9,13)]),([(10,[0])],[(3,8)]),([],[(9,13)]),([(10,[0])],[(3,8)]),([],[(9,13)])] ?_ ?h; case h=>conv=>lhs; reduce; simp only [Int.reduceOfNat]
noncomputable def i213:IFn:=by
 refine uFn 2 Tryz.f213 [([],[(7,11)]),([(13,[0]),(14,[0])],[(7,11)]),([(13,[0])],[(7,11)]),([],[(7,11)])] ?_ ?h; case h=>conv=>lhs; reduce; simp only [Int.reduceOfNat]
noncomputable def i214:IFn:=by
 refine uFn 2 Tryz.f214 [([],[(7,11)]),([(13,[0])],[(7,11)]),([(13,[0]),(14,[0])],[(7,11)]),([],[(7,11)]),([],[(7,11)]),([(13,[0])],[(7,11)]),([(13,[0]),(14,[0])],[(7,11)]),([],[(7,11)]),([],[(7,11)])] ?_ ?h; case h=>conv=>lhs; reduce; simp only [Int.reduceOfNat]
def i215:IFn:=⟨19,[(.tmp 2)],(.seq (oZ 0 [oK 2 0]) (.seq (.seq (oZ 0 [oM 3 0,oR 4 (.bin .geq (oT 3) (.const (.int .u32 65536)))]) (.cond (oT 4) (.seq (oZ 0 [oM 5 0,oR 6 (.bin .shr (oT 5) (.const (.int .u64 16))),oM 0 6]) (oZ 0 [oK 2 16])) .skip)) (.seq (.seq (oZ 0 [oM 7 0,oR 8 (.bin .geq (oT 7) (.const (.int .u32 256)))]) (.cond (oT 8) (.seq (oZ 0 [oM 9 0,oR 10 (.bin .shr (oT 9) (.const (.int .u64 8))),oM 0 10]) (oZ 0 [oM 11 2,oJ 12 .add 11 8,oM 2 12])) .skip)) (.seq (oZ 0 [oM 13 2,oM 14 0,oR 15 (.conv .u8 (oT 14)),oR 16 (.indexS (.const (.str (bs [0,1,2,2,3,3,3,3,4,4,4,4,4,4,4,4,5,5,5,5,5,5,5,5,5,5,5,5,5,5,5,5,6,6,6,6,6,6,6,6,6,6,6,6,6,6,6,6,6,6,6,6,6,6,6,6,6,6,6,6,6,6,6,6,7,7,7,7,7,7,7,7,7,7,7,7,7,7,7,7,7,7,7,7,7,7,7,7,7,7,7,7,7,7,7,7,7,7,7,7,7,7,7,7,7,7,7,7,7,7,7,7,7,7,7,7,7,7,7,7,7,7,7,7,7,7,7,7,8,8,8,8,8,8,8,8,8,8,8,8,8,8,8,8,8,8,8,8,8,8,8,8,8,8,8,8,8,8,8,8,8,8,8,8,8,8,8,8,8,8,8,8,8,8,8,8,8,8,8,8,8,8,8,8,8,8,8,8,8,8,8,8,8,8,8,8,8,8,8,8,8,8,8,8,8,8,8,8,8,8,8,8,8,8,8,8,8,8,8,8,8,8,8,8,8,8,8,8,8,8,8,8,8,8,8,8,8,8,8,8,8,8,8,8,8,8,8,8,8,8,8,8,8,8,8,8]))) (oT 15)),oR 17 (.conv .i64 (oT 16)),oB 18 .add 13 17,oM 2 18]) .ret)))),0⟩
def i216:IFn:=⟨25,[(.tmp 2)],(.seq (oZ 0 [oK 2 0]) (.seq (.seq (oZ 0 [oM 3 0,oR 4 (.bin .geq (oT 3) (.const (.int .u64 4294967296)))]) (.cond (oT 4) (.seq (oZ 0 [oM 5 0,oR 6 (.bin .shr (oT 5) (.const (.int .u64 32))),oM 0 6]) (oZ 0 [oK 2 32])) .skip)) (.seq (.seq (oZ 0 [oM 7 0,oR 8 (.bin .geq (oT 7) (.const (.int .u64 65536)))]) (.cond (oT 8) (.seq (oZ 0 [oM 9 0,oR 10 (.bin .shr (oT 9) (.const (.int .u64 16))),oM 0 10]) (oZ 0 [oM 11 2,oJ 12 .add 11 16,oM 2 12])) .skip)) (.seq (.seq (oZ 0 [oM 13 0,oR 14 (.bin .geq (oT 13) (.const (.int .u64 256)))]) (.cond (oT 14) (.seq (oZ 0 [oM 15 0,oR 16 (.bin .shr (oT 15) (.const (.int .u64 8))),oM 0 16]) (oZ 0 [oM 17 2,oJ 18 .add 17 8,oM 2 18])) .skip)) (.seq (oZ 0 [oM 19 2,oM 20 0,oR 21 (.conv .u8 (oT 20)),oR 22 (.indexS (.const (.str (bs [0,1,2,2,3,3,3,3,4,4,4,4,4,4,4,4,5,5,5,5,5,5,5,5,5,5,5,5,5,5,5,5,6,6,6,6,6,6,6,6,6,6,6,6,6,6,6,6,6,6,6,6,6,6,6,6,6,6,6,6,6,6,6,6,7,7,7,7,7,7,7,7,7,7,7,7,7,7,7,7,7,7,7,7,7,7,7,7,7,7,7,7,7,7,7,7,7,7,7,7,7,7,7,7,7,7,7,7,7,7,7,7,7,7,7,7,7,7,7,7,7,7,7,7,7,7,7,7,8,8,8,8,8,8,8,8,8,8,8,8,8,8,8,8,8,8,8,8,8,8,8,8,8,8,8,8,8,8,8,8,8,8,8,8,8,8,8,8,8,8,8,8,8,8,8,8,8,8,8,8,8,8,8,8,8,8,8,8,8,8,8,8,8,8,8,8,8,8,8,8,8,8,8,8,8,8,8,8,8,8,8,8,8,8,8,8,8,8,8,8,8,8,8,8,8,8,8,8,8,8,8,8,8,8,8,8,8,8,8,8,8,8,8,8,8,8,8,8,8,8,8,8,8,8,8,8]))) (oT 21)),oR 23 (.conv .i64 (oT 22)),oB 24 .add 19 23,oM 2 24]) .ret))))),0⟩
noncomputable def i217:IFn:=by
 refine uFn 0 Tryz.f217 [] ?_ ?h; case h=>conv=>lhs; reduce; simp only [Int.reduceOfNat]
noncomputable def i218:IFn:=by
 refine uFn 0 Tryz.f218 [([],[(4,8)])] ?_ ?h; case h=>conv=>lhs; reduce; simp only [Int.reduceOfNat]
noncomputable def i219:IFn:=by
 refine uFn 0 Tryz.f219 [] ?_ ?h; case h=>conv=>lhs; reduce; simp only [Int.reduceOfNat]
noncomputable def i220:IFn:=by
 refine uFn 0 Tryz.f220 [] ?_ ?h; case h=>conv=>lhs; reduce; simp only [Int.reduceOfNat]
noncomputable def i221:IFn:=by
 refine uFn 0 Tryz.f221 [] ?_ ?h; case h=>conv=>lhs; reduce; simp only [Int.reduceOfNat]
noncomputable def i222:IFn:=by
 refine uFn 0 Tryz.f222 [([(3,[0]),(4,[0,1])],[(0,2),(1,2)]),([(5,[0]),(6,[0]),(7,[0]),(8,[0,1]),(9,[0,1]),(10,[0,1]),(11,[0,1]),(12,[0,1]),(13,[0,1]),(14,[0,1]),(15,[0,1]),(16,[0,1]),(17,[0,1]),(18,[0,1]),(19,[0,1]),(20,[0,1]),(21,[0,1]),(22,[0,1]),(23,[0,1]),(24,[0,1,2]),(25,[0,1,2]),(26,[0,1,2]),(27,[0,1,2]),(28,[0,1,2]),(29,[0,1,2]),(30,[0,1,2]),(31,[0,1,2]),(32,[0,1,2]),(33,[0,1,2]),(34,[0,1,2]),(35,[0,1,2]),(36,[0,1,2])],[(0,1),(0,3),(1,3),(10,16),(14,16),(26,32),(30,32)])] ?_ ?h; case h=>conv=>lhs; reduce; simp only [Int.reduceOfNat]
noncomputable def i223:IFn:=by
 refine uFn 2 Tryz.f223 [] ?_ ?h; case h=>conv=>lhs; reduce; simp only [Int.reduceOfNat]
def i224:IFn:=cSort qF
noncomputable def i225:IFn:=by
 refine uFn 0 Tryz.f225 [] ?_ ?h; case h=>conv=>lhs; reduce; simp only [Int.reduceOfNat,Int.reduceNegSucc]
noncomputable def i226:IFn:=by
 refine uFn 0 Tryz.f226 [([(5,[0]),(6,[0,1])],[(0,1),(0,3),(1,3),(2,3),(0,4),(1,4),(2,4),(3,4)])] ?_ ?h; case h=>conv=>lhs; reduce; simp only [Int.reduceOfNat]
noncomputable def i227:IFn:=by
 refine uFn 0 Tryz.f227 [] ?_ ?h; case h=>conv=>lhs; reduce; simp only [Int.reduceOfNat]
noncomputable def i228:IFn:=by
 refine uFn 0 Tryz.f228 [] ?_ ?h; case h=>conv=>lhs; reduce; simp only [Int.reduceOfNat,Int.reduceNegSucc]
noncomputable def i229:IFn:=by
 refine uFn 0 Tryz.f229 [] ?_ ?h; case h=>conv=>lhs; reduce; simp only [Int.reduceOfNat]
noncomputable def i234:IFn:=by
 refine uFn 2 Tryz.f234 [([(19,[0])],[(10,17)]),([(13,[0])],[(5,11)]),([],[(13,19)])] ?_ ?h; case h=>conv=>lhs; reduce; simp only [Int.reduceOfNat]
noncomputable def i235:IFn:=by
 refine uFn 0 Tryz.f235 [] ?_ ?h; case h=>conv=>lhs; reduce; simp only [Int.reduceOfNat]
noncomputable def i236:IFn:=by
 refine uFn 2 Tryz.f236 [([],[(2,5)]),([],[(2,5)]),([],[(2,5)])] ?_ ?h; case h=>conv=>lhs; reduce; simp only [Int.reduceOfNat]
noncomputable def i237:IFn:=by
 refine uFn 2 Tryz.f237 [] ?_ ?h; case h=>conv=>lhs; reduce; simp only [Int.reduceOfNat]
noncomputable def i238:IFn:=by
 refine uFn 2 Tryz.f238 [] ?_ ?h; case h=>conv=>lhs; reduce; simp only [Int.reduceOfNat]
noncomputable def i239:IFn:=by
 refine uFn 0 Tryz.f239 [] ?_ ?h; case h=>conv=>lhs; reduce; simp only [Int.reduceOfNat]
noncomputable def i240:IFn:=by
 refine uFn 0 Tryz.f240 [] ?_ ?h; case h=>conv=>lhs; reduce; simp only [Int.reduceOfNat,Int.reduceNegSucc]
noncomputable def i241:IFn:=by
 refine uFn 0 Tryz.f241 [] ?_ ?h; case h=>conv=>lhs; reduce; simp only [Int.reduceOfNat]
noncomputable def i242:IFn:=by
 refine uFn 1 Tryz.f242 [([],[(3,8)])] ?_ ?h; case h=>conv=>lhs; reduce; simp only [Int.reduceOfNat]
def i243:IFn:=cSort uF
noncomputable def i244:IFn:=by
 refine uFn 0 Tryz.f244 [([(3,[0]),(4,[0,1]),(5,[0,1,2])],[(0,2),(1,2)])] ?_ ?h; case h=>conv=>lhs; reduce; simp only [Int.reduceOfNat]
noncomputable def i245:IFn:=by
 refine uFn 0 Tryz.f245 [] ?_ ?h; case h=>conv=>lhs; reduce; simp only [Int.reduceOfNat,Int.reduceNegSucc]
noncomputable def i246:IFn:=by
 refine uFn 0 Tryz.f246 [] ?_ ?h; case h=>conv=>lhs; reduce; simp only [Int.reduceOfNat]
noncomputable def i247:IFn:=by
 refine uFn 0 Tryz.f247 [] ?_ ?h; case h=>conv=>lhs; reduce; simp only [Int.reduceOfNat]
noncomputable def i248:IFn:=by
 refine uFn 0 Tryz.f248 [([],[(1,7),(5,7),(1,11),(5,11)]),([(23,[0]),(24,[0]),(25,[0]),(26,[0]),(27,[0,1]),(28,[0,1])],[(1,4),(8,14),(12,14),(8,18),(12,18)]),([],[(1,7),(5,7),(1,11),(5,11)])] ?_ ?h; case h=>conv=>lhs; reduce; simp only [Int.reduceOfNat]
noncomputable def i249:IFn:=by
 refine uFn 0 Tryz.f249 [([],[(1,6),(4,6),(1,10),(4,10),(6,10),(8,10),(1,13),(4,13),(6,13),(8,13),(1,15),(4,15),(6,15),(8,15),(10,15),(13,15),(1,18),(4,18),(6,18),(8,18),(10,19),(13,19),(15,19),(18,19)])] ?_ ?h; case h=>conv=>lhs; reduce; simp only [Int.reduceOfNat]
noncomputable def i250:IFn:=by
 refine uFn 0 Tryz.f250 [] ?_ ?h; case h=>conv=>lhs; reduce; simp only [Int.reduceOfNat]
noncomputable def i251:IFn:=by
 refine uFn 0 Tryz.f251 [] ?_ ?h; case h=>conv=>lhs; reduce; simp only [Int.reduceOfNat]
noncomputable def i252:IFn:=by
 refine uFn 0 Tryz.f252 [([],[(1,3),(1,6),(1,7)])] ?_ ?h; case h=>conv=>lhs; reduce; simp only [Int.reduceOfNat]
def i253:IFn:=cPdq qF
noncomputable def i254:IFn:=by
 refine uFn 0 Tryz.f254 [] ?_ ?h; case h=>conv=>lhs; reduce; simp only [Int.reduceOfNat,Int.reduceNegSucc]
noncomputable def i255:IFn:=by
 refine uFn 0 Tryz.f255 [] ?_ ?h; case h=>conv=>lhs; reduce; simp only [Int.reduceOfNat]
noncomputable def i256:IFn:=by
 refine uFn 0 Tryz.f256 [] ?_ ?h; case h=>conv=>lhs; reduce; simp only [Int.reduceOfNat]
noncomputable def i257:IFn:=by
 refine uFn 1 Tryz.f257 [] ?_ ?h; case h=>conv=>lhs; reduce; simp only [Int.reduceOfNat]
noncomputable def i258:IFn:=by
 refine uFn 2 Tryz.f258 [([],[(5,9)])] ?_ ?h; case h=>conv=>lhs; reduce; simp only [Int.reduceOfNat]
noncomputable def i259:IFn:=by
 refine uFn 2 Tryz.f259 [] ?_ ?h; case h=>conv=>lhs; reduce; simp only [Int.reduceOfNat]
noncomputable def i260:IFn:=by
 refine uFn 0 Tryz.f260 [] ?_ ?h; case h=>conv=>lhs; reduce; simp only [Int.reduceOfNat,Int.reduceNegSucc]
noncomputable def i266:IFn:=by
 refine uFn 2 Tryz.f266 [([],[(3,7)])] ?_ ?h; case h=>conv=>lhs; reduce; simp only [Int.reduceOfNat]
noncomputable def i267:IFn:=by
 refine uFn 0 Tryz.f267 [] ?_ ?h; case h=>conv=>lhs; reduce; simp only [Int.reduceOfNat,Int.reduceNegSucc]
def i268:IFn:=cPdq uF
noncomputable def i269:IFn:=by
 refine uFn 0 Tryz.f269 [([(7,[0]),(8,[0,1]),(9,[0,1]),(10,[0,1]),(11,[0,1]),(12,[0,1]),(13,[0,1]),(14,[0,1]),(15,[0,1]),(16,[0,1]),(17,[0,1]),(18,[0,1,2]),(19,[0,1,2,3]),(20,[0,1,2,3]),(21,[0,1,2,3]),(22,[0,1,2,3])],[(0,1),(0,2),(1,2),(0,4),(1,4),(2,4),(3,4),(0,5),(1,5),(2,5),(3,5),(4,5),(0,6),(1,6),(2,6),(3,6),(4,6),(5,6),(11,12),(11,13),(12,13),(11,15),(12,15),(13,15),(14,15),(11,16),(12,16),(13,16),(14,16),(15,16),(11,17),(12,17),(13,17),(14,17),(15,17),(16,17)])] ?_ ?h; case h=>conv=>lhs; reduce; simp only [Int.reduceOfNat]
def i270:IFn:=cIns qF
def i271:IFn:=cHeap qF
def i272:IFn:=cBrk qF
def i273:IFn:=cPiv qF
def i274:IFn:=cRev qF
def i275:IFn:=cPart qF
def i276:IFn:=cParE qF
def i277:IFn:=cPar qF
noncomputable def i278:IFn:=by
 refine uFn 0 Tryz.f278 [] ?_ ?h; case h=>conv=>lhs; reduce; simp only [Int.reduceOfNat]
def i281:IFn:=cIns uF
def i282:IFn:=cHeap uF
def i283:IFn:=cBrk uF
def i284:IFn:=cPiv uF
def i285:IFn:=cRev uF
def i286:IFn:=cPart uF
def i287:IFn:=cParE uF
def i288:IFn:=cPar uF
noncomputable def i289:IFn:=by
 refine uFn 0 Tryz.f289 [([(4,[0,1]),(5,[0,1])],[(0,1),(0,2),(1,2),(0,3),(1,3),(2,3),(1,4)])] ?_ ?h; case h=>conv=>lhs; reduce; simp only [Int.reduceOfNat]
def i290:IFn:=cSift qF
def i291:IFn:=cMedA qF
def i292:IFn:=cMed qF
def i293:IFn:=cSift uF
def i294:IFn:=cMedA uF
def i295:IFn:=cMed uF
noncomputable def i296:IFn:=by
 refine uFn 0 Tryz.f296 [] ?_ ?h; case h=>conv=>lhs; reduce; simp only [Int.reduceOfNat]
def i297:IFn:=cOrd2 qF
def i298:IFn:=cOrd2 uF
inductive FT where
 | nil
 | one (f:FuncId) (i:IFn)
 | two (k:FuncId) (l r:FT)
noncomputable def FT.get (t:FT):FuncId->Option IFn:=FT.rec (motive:=fun _=>FuncId->Option IFn) (fun _=>none) (fun g i f=>bif Nat.beq f g then some i else none) (fun k _ _ a b f=>bif Nat.blt f k then a f else b f) t
noncomputable def FT.all (t:FT):List (FuncId × IFn):=FT.rec (motive:=fun _=>List (FuncId × IFn)) [] (fun g i=>[(g,i)]) (fun _ _ _ a b=>a++b) t
theorem FT.mem {f:FuncId} {i:IFn}:∀ {t:FT},t.get f=some i->(f,i)∈t.all
 | .nil,h=>by cases h
 | .one g j,h=>by
  have h2:(bif Nat.beq f g then some j else none)=some i:=h
  clear h
  cases hc:Nat.beq f g
  ·rw [hc] at h2; cases h2
  ·rw [hc] at h2
   rw [Nat.eq_of_beq_eq_true hc,← zbh (show some j=some i from h2)]
   exact zbn ..
 | .two k l r,h=>by
  have h:(bif Nat.blt f k then l.get f else r.get f)=some i:=h
  have e:(FT.two k l r).all=l.all++r.all:=rfl
  rw [e]
  cases hc:Nat.blt f k
  ·rw [hc] at h; exact List.mem_append_right _ (FT.mem h)
  ·rw [hc] at h; exact List.mem_append_left _ (FT.mem h)
noncomputable def tab0:FT:=.two 37 (.two 20 (.two 12 (.two 7 (.two 5 (.one 3 i3) (.two 6 (.one 5 i5) (.one 6 i6))) (.two 8 (.one 7 i7) (.two 9 (.one 8 i8) (.one 9 i9)))) (.two 16 (.two 14 (.one 12 i12) (.two 15 (.one 14 i14) (.one 15 i15))) (.two 18 (.two 17 (.one 16 i16) (.one 17 i17)) (.two 19 (.one 18 i18) (.one 19 i19))))) (.two 26 (.two 23 (.two 21 (.one 20 i20) (.two 22 (.one 21 i21) (.one 22 i22))) (.two 24 (.one 23 i23) (.two 25 (.one 24 i24) (.one 25 i25)))) (.two 33 (.two 27 (.one 26 i26) (.two 32 (.one 27 i27) (.one 32 i32))) (.two 35 (.two 34 (.one 33 i33) (.one 34 i34)) (.two 36 (.one 35 i35) (.one 36 i36)))))) (.two 50 (.two 43 (.two 40 (.two 38 (.one 37 i37) (.two 39 (.one 38 i38) (.one 39 i39))) (.two 41 (.one 40 i40) (.two 42 (.one 41 i41) (.one 42 i42)))) (.two 46 (.two 44 (.one 43 i43) (.two 45 (.one 44 i44) (.one 45 i45))) (.two 48 (.two 47 (.one 46 i46) (.one 47 i47)) (.two 49 (.one 48 i48) (.one 49 i49))))) (.two 57 (.two 53 (.two 51 (.one 50 i50) (.two 52 (.one 51 i51) (.one 52 i52))) (.two 55 (.two 54 (.one 53 i53) (.one 54 i54)) (.two 56 (.one 55 i55) (.one 56 i56)))) (.two 60 (.two 58 (.one 57 i57) (.two 59 (.one 58 i58) (.one 59 i59))) (.two 62 (.two 61 (.one 60 i60) (.one 61 i61)) (.two 63 (.one 62 i62) (.one 63 i63))))))
noncomputable def tab1:FT:=.two 94 (.two 81 (.two 74 (.two 67 (.two 65 (.one 64 i64) (.two 66 (.one 65 i65) (.one 66 i66))) (.two 68 (.one 67 i67) (.two 69 (.one 68 i68) (.one 69 i69)))) (.two 77 (.two 75 (.one 74 i74) (.two 76 (.one 75 i75) (.one 76 i76))) (.two 79 (.two 78 (.one 77 i77) (.one 78 i78)) (.two 80 (.one 79 i79) (.one 80 i80))))) (.two 87 (.two 84 (.two 82 (.one 81 i81) (.two 83 (.one 82 i82) (.one 83 i83))) (.two 85 (.one 84 i84) (.two 86 (.one 85 i85) (.one 86 i86)))) (.two 90 (.two 88 (.one 87 i87) (.two 89 (.one 88 i88) (.one 89 i89))) (.two 92 (.two 91 (.one 90 i90) (.one 91 i91)) (.two 93 (.one 92 i92) (.one 93 i93)))))) (.two 123 (.two 116 (.two 97 (.two 95 (.one 94 i94) (.two 96 (.one 95 i95) (.one 96 i96))) (.two 98 (.one 97 i97) (.two 99 (.one 98 i98) (.one 99 i99)))) (.two 119 (.two 117 (.one 116 i116) (.two 118 (.one 117 i117) (.one 118 i118))) (.two 121 (.two 120 (.one 119 i119) (.one 120 i120)) (.two 122 (.one 121 i121) (.one 122 i122))))) (.two 130 (.two 126 (.two 124 (.one 123 i123) (.two 125 (.one 124 i124) (.one 125 i125))) (.two 128 (.two 127 (.one 126 i126) (.one 127 i127)) (.two 129 (.one 128 i128) (.one 129 i129)))) (.two 133 (.two 131 (.one 130 i130) (.two 132 (.one 131 i131) (.one 132 i132))) (.two 151 (.two 150 (.one 133 i133) (.one 150 i150)) (.two 152 (.one 151 i151) (.one 152 i152))))))
noncomputable def tab2:FT:=.two 207 (.two 185 (.two 160 (.two 156 (.two 154 (.one 153 i153) (.two 155 (.one 154 i154) (.one 155 i155))) (.two 157 (.one 156 i156) (.two 158 (.one 157 i157) (.one 158 i158)))) (.two 164 (.two 162 (.one 160 i160) (.two 163 (.one 162 i162) (.one 163 i163))) (.two 183 (.two 182 (.one 164 i164) (.one 182 i182)) (.two 184 (.one 183 i183) (.one 184 i184))))) (.two 191 (.two 188 (.two 186 (.one 185 i185) (.two 187 (.one 186 i186) (.one 187 i187))) (.two 189 (.one 188 i188) (.two 190 (.one 189 i189) (.one 190 i190)))) (.two 194 (.two 192 (.one 191 i191) (.two 193 (.one 192 i192) (.one 193 i193))) (.two 196 (.two 195 (.one 194 i194) (.one 195 i195)) (.two 197 (.one 196 i196) (.one 197 i197)))))) (.two 220 (.two 213 (.two 210 (.two 208 (.one 207 i207) (.two 209 (.one 208 i208) (.one 209 i209))) (.two 211 (.one 210 i210) (.two 212 (.one 211 i211) (.one 212 i212)))) (.two 216 (.two 214 (.one 213 i213) (.two 215 (.one 214 i214) (.one 215 i215))) (.two 218 (.two 217 (.one 216 i216) (.one 217 i217)) (.two 219 (.one 218 i218) (.one 219 i219))))) (.two 227 (.two 223 (.two 221 (.one 220 i220) (.two 222 (.one 221 i221) (.one 222 i222))) (.two 225 (.two 224 (.one 223 i223) (.one 224 i224)) (.two 226 (.one 225 i225) (.one 226 i226)))) (.two 234 (.two 228 (.one 227 i227) (.two 229 (.one 228 i228) (.one 229 i229))) (.two 236 (.two 235 (.one 234 i234) (.one 235 i235)) (.two 237 (.one 236 i236) (.one 237 i237))))))
noncomputable def tab3:FT:=.two 270 (.two 251 (.two 244 (.two 241 (.two 239 (.one 238 i238) (.two 240 (.one 239 i239) (.one 240 i240))) (.two 242 (.one 241 i241) (.two 243 (.one 242 i242) (.one 243 i243)))) (.two 247 (.two 245 (.one 244 i244) (.two 246 (.one 245 i245) (.one 246 i246))) (.two 249 (.two 248 (.one 247 i247) (.one 248 i248)) (.two 250 (.one 249 i249) (.one 250 i250))))) (.two 258 (.two 254 (.two 252 (.one 251 i251) (.two 253 (.one 252 i252) (.one 253 i253))) (.two 256 (.two 255 (.one 254 i254) (.one 255 i255)) (.two 257 (.one 256 i256) (.one 257 i257)))) (.two 266 (.two 259 (.one 258 i258) (.two 260 (.one 259 i259) (.one 260 i260))) (.two 268 (.two 267 (.one 266 i266) (.one 267 i267)) (.two 269 (.one 268 i268) (.one 269 i269)))))) (.two 285 (.two 276 (.two 273 (.two 271 (.one 270 i270) (.two 272 (.one 271 i271) (.one 272 i272))) (.two 274 (.one 273 i273) (.two 275 (.one 274 i274) (.one 275 i275)))) (.two 281 (.two 277 (.one 276 i276) (.two 278 (.one 277 i277) (.one 278 i278))) (.two 283 (.two 282 (.one 281 i281) (.one 282 i282)) (.two 284 (.one 283 i283) (.one 284 i284))))) (.two 292 (.two 288 (.two 286 (.one 285 i285) (.two 287 (.one 286 i286) (.one 287 i287))) (.two 290 (.two 289 (.one 288 i288) (.one 289 i289)) (.two 291 (.one 290 i290) (.one 291 i291)))) (.two 295 (.two 293 (.one 292 i292) (.two 294 (.one 293 i293) (.one 294 i294))) (.two 297 (.two 296 (.one 295 i295) (.one 296 i296)) (.two 298 (.one 297 i297) (.one 298 i298))))))
noncomputable def tabT:FT:=.two 153 (.two 64 tab0 tab1) (.two 238 tab2 tab3)
noncomputable def Ftab (f:FuncId):Option IFn:=tabT.get f
end
end Go.Proofs.YtgmifgfbnnbgjaaGreatDoor
end
