/-
  A part of the proof: the small machine, its simulation and its walks.
-/
import Derived.Test.YtelocmclpfincaaGreatDoorProg
import Derived.Test.YtelocmclpfincaaGreatDoorZa
set_option linter.unusedVariables false
set_option linter.unusedSimpArgs false
set_option maxRecDepth 1000000
set_option maxHeartbeats 3200000
section
namespace Go.Proofs.YtelocmclpfincaaGreatDoor
open Go
section
abbrev oR (d:Nat) (o:IOp):IOpR:=⟨some d,o,none,[]⟩
abbrev oM (d a:Nat):IOpR:=⟨some d,.mov (.tmp a),none,[]⟩
abbrev oG (d:Nat) (o:IOp) (j:Nat) (b:Bool):IOpR:=⟨some d,o,some (j,b),[]⟩
abbrev oN (o:IOp):IOpR:=⟨none,o,none,[]⟩
abbrev oL (d a:Nat):IOpR:=⟨some d,.load false 1 (.tmp a),none,[]⟩
abbrev oA (d n a:Nat):IOpR:=⟨some d,.load true n (.tmp a),none,[]⟩
abbrev oD (d n a b:Nat):IOpR:=⟨some d,.iaddr n (.tmp a) (.tmp b),none,[]⟩
abbrev oF (d k a:Nat):IOpR:=⟨some d,.faddr k (.tmp a),none,[]⟩
abbrev oK (d:Nat) (x:Int):IOpR:=⟨some d,.mov (.const (.int .i64 x)),none,[]⟩
abbrev oJ (d:Nat) (o:BinOp) (a:Nat) (x:Int):IOpR:=⟨some d,.bin o (.tmp a) (.const (.int .i64 x)),none,[]⟩
abbrev oB (d:Nat) (o:BinOp) (a b:Nat):IOpR:=⟨some d,.bin o (.tmp a) (.tmp b),none,[]⟩
abbrev oE (d n a:Nat):IOpR:=⟨some d,.len n (.tmp a),none,[]⟩
abbrev oX (d a i:Nat):IOpR:=⟨some d,.extract (.tmp a) i,none,[]⟩
abbrev oH (d a s:Nat):IOpR:=⟨some d,.box (.tmp a) s,none,[]⟩
abbrev oZ (s:Nat) (l:List IOpR):IC:=.region false s l []
abbrev oC (a e:Nat):IC:=.cond (.tmp a) .skip (.exit e)
abbrev oT (a:Nat):Opd:=.tmp a
abbrev oI (x:Int):Opd:=.const (.int .i64 x)
structure SF where
 sz:Nat
 ag:Bool
 ins:FuncId
 sift:FuncId
 heap:FuncId
 ord2:FuncId
 med:FuncId
 medA:FuncId
 rev:FuncId
 piv:FuncId
 brk:FuncId
 parE:FuncId
 part:FuncId
 par:FuncId
 pdq:FuncId
 sort:FuncId
def cIns (X:SF):IFn:=⟨53,[],(.seq (oZ 0 [oM 10 1,oJ 11 .add 10 1,oM 8 11]) (.block 0 (.loop (.seq (.seq (oZ 0 [oM 12 8,oM 13 2,oB 14 .lss 12 13]) (oC 14 0)) (.seq (.block 1 (.seq (oZ 0 [oM 17 8,oM 9 17]) (.block 2 (.loop (.seq (.seq (.region true 1 [oM 18 9,oM 19 1,oB 20 .gtr 18 19,oM 21 20,oG 22 (.mov (oT 3)) 21 true,oG 23 (.mov (oT 0)) 21 true,oG 24 (.mov (oT 9)) 21 true,oG 25 (.iaddr X.sz (oT 23) (oT 24)) 21 true,oG 26 (.load X.ag X.sz (oT 25)) 21 true,oG 27 (.mov (oT 0)) 21 true,oG 28 (.mov (oT 9)) 21 true,oG 29 (.bin .sub (oT 28) (oI 1)) 21 true,oG 30 (.iaddr X.sz (oT 27) (oT 29)) 21 true,oG 31 (.load X.ag X.sz (oT 30)) 21 true,oG 32 (.call (oT 22) [(oT 26),(oT 31)] 0) 21 true,⟨(.some 33),(.bin .lss (oT 32) (oI 0)),(.some (21,true)),[0]⟩,⟨(.some 34),(.pick (oT 21) (oT 33) (.const (.bool false))),.none,[0]⟩] [(8,13)]) (oC 34 2)) (.seq (.block 3 (.region true 0 [oM 37 0,oM 38 9,oM 39 0,oM 40 9,oJ 41 .sub 40 1,oM 42 0,oM 43 9,oJ 44 .sub 43 1,oR 45 (.iaddr X.sz (oT 42) (oT 44)),oR 46 (.load X.ag X.sz (oT 45)),oM 47 0,oM 48 9,oR 49 (.iaddr X.sz (oT 47) (oT 48)),oR 50 (.load X.ag X.sz (oT 49)),oR 51 (.iaddr X.sz (oT 37) (oT 38)),oN (.store X.sz (oT 51) (oT 46)),oR 52 (.iaddr X.sz (oT 39) (oT 41)),oN (.store X.sz (oT 52) (oT 50))] [(9,13)])) (oZ 0 [oM 35 9,oJ 36 .sub 35 1,oM 9 36]))))))) (oZ 0 [oM 15 8,oJ 16 .add 15 1,oM 8 16])))))),2⟩
def cSift (X:SF):IFn:=⟨82,[],(.seq (oZ 0 [oM 12 1,oM 10 12]) (.block 0 (.loop (.block 1 (.seq (oZ 0 [oM 13 10,oR 14 (.bin .mul (oI 2) (oT 13)),oJ 15 .add 14 1,oM 11 15]) (.seq (.seq (oZ 0 [oM 16 11,oM 17 2,oB 18 .geq 16 17]) (.cond (oT 18) (.exit 0) .skip)) (.seq (.seq (.region true 1 [oM 19 11,oJ 20 .add 19 1,oM 21 2,oB 22 .lss 20 21,oM 23 22,oG 24 (.mov (oT 4)) 23 true,oG 25 (.mov (oT 0)) 23 true,oG 26 (.mov (oT 3)) 23 true,oG 27 (.mov (oT 11)) 23 true,oG 28 (.bin .add (oT 26) (oT 27)) 23 true,oG 29 (.iaddr X.sz (oT 25) (oT 28)) 23 true,oG 30 (.load X.ag X.sz (oT 29)) 23 true,oG 31 (.mov (oT 0)) 23 true,oG 32 (.mov (oT 3)) 23 true,oG 33 (.mov (oT 11)) 23 true,oG 34 (.bin .add (oT 32) (oT 33)) 23 true,oG 35 (.bin .add (oT 34) (oI 1)) 23 true,oG 36 (.iaddr X.sz (oT 31) (oT 35)) 23 true,oG 37 (.load X.ag X.sz (oT 36)) 23 true,oG 38 (.call (oT 24) [(oT 30),(oT 37)] 0) 23 true,⟨(.some 39),(.bin .lss (oT 38) (oI 0)),(.some (23,true)),[0]⟩,⟨(.some 40),(.pick (oT 23) (oT 39) (.const (.bool false))),.none,[0]⟩] [(11,18)]) (.cond (oT 40) (oZ 0 [oM 41 11,oJ 42 .add 41 1,oM 11 42]) .skip)) (.seq (.seq (.region true 1 [oM 43 4,oM 44 0,oM 45 3,oM 46 10,oB 47 .add 45 46,oR 48 (.iaddr X.sz (oT 44) (oT 47)),oR 49 (.load X.ag X.sz (oT 48)),oM 50 0,oM 51 3,oM 52 11,oB 53 .add 51 52,oR 54 (.iaddr X.sz (oT 50) (oT 53)),oR 55 (.load X.ag X.sz (oT 54)),oR 56 (.call (oT 43) [(oT 49),(oT 55)] 0),⟨(.some 57),(.bin .lss (oT 56) (oI 0)),.none,[0]⟩,⟨(.some 58),(.un .not (oT 57)),.none,[0]⟩] [(6,12)]) (.cond (oT 58) .ret .skip)) (.seq (.region true 0 [oM 59 0,oM 60 3,oM 61 10,oB 62 .add 60 61,oM 63 0,oM 64 3,oM 65 11,oB 66 .add 64 65,oM 67 0,oM 68 3,oM 69 11,oB 70 .add 68 69,oR 71 (.iaddr X.sz (oT 67) (oT 70)),oR 72 (.load X.ag X.sz (oT 71)),oM 73 0,oM 74 3,oM 75 10,oB 76 .add 74 75,oR 77 (.iaddr X.sz (oT 73) (oT 76)),oR 78 (.load X.ag X.sz (oT 77)),oR 79 (.iaddr X.sz (oT 59) (oT 62)),oN (.store X.sz (oT 79) (oT 72)),oR 80 (.iaddr X.sz (oT 63) (oT 66)),oN (.store X.sz (oT 80) (oT 78))] [(13,19)]) (oZ 0 [oM 81 11,oM 10 81])))))))))),2⟩
def cHeap (X:SF):IFn:=⟨60,[],(.seq (oZ 0 [oM 13 1,oM 8 13]) (.seq (oZ 0 [oK 9 0]) (.seq (oZ 0 [oM 14 2,oM 15 1,oB 16 .sub 14 15,oM 10 16]) (.seq (.seq (oZ 0 [oM 17 10,oJ 18 .sub 17 1,oJ 19 .quo 18 2,oM 11 19]) (.block 0 (.loop (.seq (.seq (oZ 0 [oM 20 11,oJ 21 .geq 20 0]) (oC 21 0)) (.seq (.block 1 (oZ 1 [oM 24 0,oM 25 11,oM 26 10,oM 27 8,oM 28 3,oR 29 (.call (.const (.fn X.sift [] [])) [(oT 24),(oT 25),(oT 26),(oT 27),(oT 28)] 0)])) (oZ 0 [oM 22 11,oJ 23 .sub 22 1,oM 11 23])))))) (.seq (oZ 0 [oM 30 10,oJ 31 .sub 30 1,oM 12 31]) (.block 2 (.loop (.seq (.seq (oZ 0 [oM 32 12,oJ 33 .geq 32 0]) (oC 33 2)) (.seq (.block 3 (.seq (.region true 0 [oM 36 0,oM 37 8,oM 38 0,oM 39 8,oM 40 12,oB 41 .add 39 40,oM 42 0,oM 43 8,oM 44 12,oB 45 .add 43 44,oR 46 (.iaddr X.sz (oT 42) (oT 45)),oR 47 (.load X.ag X.sz (oT 46)),oM 48 0,oM 49 8,oR 50 (.iaddr X.sz (oT 48) (oT 49)),oR 51 (.load X.ag X.sz (oT 50)),oR 52 (.iaddr X.sz (oT 36) (oT 37)),oN (.store X.sz (oT 52) (oT 47)),oR 53 (.iaddr X.sz (oT 38) (oT 41)),oN (.store X.sz (oT 53) (oT 51))] [(11,15)]) (oZ 1 [oM 54 0,oM 55 9,oM 56 12,oM 57 8,oM 58 3,oR 59 (.call (.const (.fn X.sift [] [])) [(oT 54),(oT 55),(oT 56),(oT 57),(oT 58)] 0)]))) (oZ 0 [oM 34 12,oJ 35 .sub 34 1,oM 12 35])))))))))),2⟩
def cOrd2 (X:SF):IFn:=⟨32,[(.tmp 10),(.tmp 11)],(.seq (oZ 0 [oK 10 0,oK 11 0]) (.seq (.seq (.region true 1 [oM 12 4,oM 13 0,oM 14 2,oR 15 (.iaddr X.sz (oT 13) (oT 14)),oR 16 (.load X.ag X.sz (oT 15)),oM 17 0,oM 18 1,oR 19 (.iaddr X.sz (oT 17) (oT 18)),oR 20 (.load X.ag X.sz (oT 19)),oR 21 (.call (oT 12) [(oT 16),(oT 20)] 0),⟨(.some 22),(.bin .lss (oT 21) (oI 0)),.none,[0]⟩] [(4,8)]) (.cond (oT 22) (.seq (oZ 0 [oM 23 3,oR 24 (.nilchk (oT 23)),oL 25 24,oJ 26 .add 25 1,oR 27 (.nilchk (oT 23)),oN (.store 1 (oT 27) (oT 26))]) (.seq (oZ 0 [oM 28 2,oM 29 1,oM 10 28,oM 11 29]) .ret)) .skip)) (.seq (oZ 0 [oM 30 1,oM 31 2,oM 10 30,oM 11 31]) .ret))),2⟩
def cMed (X:SF):IFn:=⟨41,[(.tmp 12)],(.seq (oZ 0 [oK 12 0]) (.seq (oZ 1 [oM 14 0,oM 15 1,oM 16 2,oM 17 4,oM 18 5,oR 19 (.call (.const (.fn X.ord2 [] [])) [(oT 14),(oT 15),(oT 16),(oT 17),(oT 18)] 0),oM 13 19,oX 20 13 0,oX 21 13 1,oM 1 20,oM 2 21]) (.seq (oZ 1 [oM 23 0,oM 24 2,oM 25 3,oM 26 4,oM 27 5,oR 28 (.call (.const (.fn X.ord2 [] [])) [(oT 23),(oT 24),(oT 25),(oT 26),(oT 27)] 0),oM 22 28,oX 29 22 0,oX 30 22 1,oM 2 29,oM 3 30]) (.seq (oZ 1 [oM 32 0,oM 33 1,oM 34 2,oM 35 4,oM 36 5,oR 37 (.call (.const (.fn X.ord2 [] [])) [(oT 32),(oT 33),(oT 34),(oT 35),(oT 36)] 0),oM 31 37,oX 38 31 0,oX 39 31 1,oM 1 38,oM 2 39]) (.seq (oZ 0 [oM 40 2,oM 12 40]) .ret))))),2⟩
def cMedA (X:SF):IFn:=⟨18,[(.tmp 8)],(.seq (oZ 0 [oK 8 0]) (.seq (oZ 1 [oM 9 0,oM 10 1,oJ 11 .sub 10 1,oM 12 1,oM 13 1,oJ 14 .add 13 1,oM 15 2,oM 16 3,oR 17 (.call (.const (.fn X.med [] [])) [(oT 9),(oT 11),(oT 12),(oT 14),(oT 15),(oT 16)] 0),oM 8 17]) .ret)),2⟩
def cRev (X:SF):IFn:=⟨34,[],(.seq (oZ 0 [oM 10 1,oM 8 10]) (.seq (oZ 0 [oM 11 2,oJ 12 .sub 11 1,oM 9 12]) (.block 0 (.loop (.seq (.seq (oZ 0 [oM 13 8,oM 14 9,oB 15 .lss 13 14]) (oC 15 0)) (.block 1 (.seq (.region true 0 [oM 16 0,oM 17 8,oM 18 0,oM 19 9,oM 20 0,oM 21 9,oR 22 (.iaddr X.sz (oT 20) (oT 21)),oR 23 (.load X.ag X.sz (oT 22)),oM 24 0,oM 25 8,oR 26 (.iaddr X.sz (oT 24) (oT 25)),oR 27 (.load X.ag X.sz (oT 26)),oR 28 (.iaddr X.sz (oT 16) (oT 17)),oN (.store X.sz (oT 28) (oT 23)),oR 29 (.iaddr X.sz (oT 18) (oT 19)),oN (.store X.sz (oT 29) (oT 27))] [(7,11)]) (.seq (oZ 0 [oM 30 8,oJ 31 .add 30 1,oM 8 31]) (oZ 0 [oM 32 9,oJ 33 .sub 32 1,oM 9 33]))))))))),2⟩
def cPiv (X:SF):IFn:=⟨63,[(.tmp 8),(.tmp 9)],(.seq (oZ 0 [oK 8 0,oK 9 0]) (.seq (oZ 0 [oM 15 2,oM 16 1,oB 17 .sub 15 16,oM 10 17]) (.seq (oZ 1 [oR 11 (.newv [(.int .i64 0)] 0)]) (.seq (oZ 0 [oM 18 1,oM 19 10,oJ 20 .quo 19 4,oJ 21 .mul 20 1,oB 22 .add 18 21,oM 12 22]) (.seq (oZ 0 [oM 23 1,oM 24 10,oJ 25 .quo 24 4,oJ 26 .mul 25 2,oB 27 .add 23 26,oM 13 27]) (.seq (oZ 0 [oM 28 1,oM 29 10,oJ 30 .quo 29 4,oJ 31 .mul 30 3,oB 32 .add 28 31,oM 14 32]) (.seq (.seq (oZ 0 [oM 33 10,oJ 34 .geq 33 8]) (.cond (oT 34) (.seq (.seq (oZ 0 [oM 35 10,oJ 36 .geq 35 50]) (.cond (oT 36) (.seq (oZ 1 [oM 37 0,oM 38 12,oM 39 3,oR 40 (.call (.const (.fn X.medA [] [])) [(oT 37),(oT 38),(oT 11),(oT 39)] 0),oM 12 40]) (.seq (oZ 1 [oM 41 0,oM 42 13,oM 43 3,oR 44 (.call (.const (.fn X.medA [] [])) [(oT 41),(oT 42),(oT 11),(oT 43)] 0),oM 13 44]) (oZ 1 [oM 45 0,oM 46 14,oM 47 3,oR 48 (.call (.const (.fn X.medA [] [])) [(oT 45),(oT 46),(oT 11),(oT 47)] 0),oM 14 48]))) .skip)) (oZ 1 [oM 49 0,oM 50 12,oM 51 13,oM 52 14,oM 53 3,oR 54 (.call (.const (.fn X.med [] [])) [(oT 49),(oT 50),(oT 51),(oT 52),(oT 11),(oT 53)] 0),oM 13 54])) .skip)) (.seq (oZ 0 [oL 55 11]) (.block 0 (.seq (oZ 0 [oJ 58 .eql 55 0,oM 57 58]) (.cond (oT 57) (.seq (oZ 0 [oM 59 13,oM 8 59,oK 9 1]) .ret) (.seq (oZ 0 [oJ 61 .eql 55 12,oM 60 61]) (.cond (oT 60) (.seq (oZ 0 [oM 62 13,oM 8 62,oK 9 2]) .ret) (.seq (oZ 0 [oM 56 13,oM 8 56,oK 9 0]) .ret)))))))))))))),2⟩
def cBrk (X:SF):IFn:=⟨67,[],(.seq (oZ 0 [oM 13 2,oM 14 1,oB 15 .sub 13 14,oM 8 15]) (.seq (oZ 0 [oM 16 8,oJ 17 .geq 16 8]) (.cond (oT 17) (.seq (oZ 1 [oM 18 8,oR 19 (.conv .u64 (oT 18)),oR 9 (.newv [(.int .u64 0)] 0),oN (.store 1 (oT 9) (oT 19))]) (.seq (oZ 1 [oM 20 8,oR 21 (.call (.const (.fn 158 [] [])) [(oT 20)] 0),oM 10 21]) (.seq (oZ 0 [oM 22 1,oM 23 8,oJ 24 .quo 23 4,oJ 25 .mul 24 2,oB 26 .add 22 25,oJ 27 .sub 26 1,oM 11 27]) (.block 0 (.loop (.seq (.seq (oZ 0 [oM 28 11,oM 29 1,oM 30 8,oJ 31 .quo 30 4,oJ 32 .mul 31 2,oB 33 .add 29 32,oJ 34 .add 33 1,oB 35 .leq 28 34]) (oC 35 0)) (.seq (.block 1 (.seq (oZ 1 [oR 38 (.call (.const (.fn 159 [] [])) [(oT 9)] 0),oM 39 10,oR 40 (.bin .sub (oT 39) (.const (.int .u64 1))),oB 41 .and 38 40,oR 42 (.conv .i64 (oT 41)),oM 12 42]) (.seq (.seq (oZ 0 [oM 43 12,oM 44 8,oB 45 .geq 43 44]) (.cond (oT 45) (oZ 0 [oM 46 12,oM 47 8,oB 48 .sub 46 47,oM 12 48]) .skip)) (.region true 0 [oM 49 0,oM 50 11,oM 51 0,oM 52 1,oM 53 12,oB 54 .add 52 53,oM 55 0,oM 56 1,oM 57 12,oB 58 .add 56 57,oR 59 (.iaddr X.sz (oT 55) (oT 58)),oR 60 (.load X.ag X.sz (oT 59)),oM 61 0,oM 62 11,oR 63 (.iaddr X.sz (oT 61) (oT 62)),oR 64 (.load X.ag X.sz (oT 63)),oR 65 (.iaddr X.sz (oT 49) (oT 50)),oN (.store X.sz (oT 65) (oT 60)),oR 66 (.iaddr X.sz (oT 51) (oT 54)),oN (.store X.sz (oT 66) (oT 64))] [(11,15)])))) (oZ 0 [oM 36 11,oJ 37 .add 36 1,oM 11 37])))))))) .skip))),2⟩
def cParE (X:SF):IFn:=⟨90,[(.tmp 10)],(.seq (oZ 0 [oK 10 0]) (.seq (.region true 0 [oM 13 0,oM 14 1,oM 15 0,oM 16 3,oM 17 0,oM 18 3,oR 19 (.iaddr X.sz (oT 17) (oT 18)),oR 20 (.load X.ag X.sz (oT 19)),oM 21 0,oM 22 1,oR 23 (.iaddr X.sz (oT 21) (oT 22)),oR 24 (.load X.ag X.sz (oT 23)),oR 25 (.iaddr X.sz (oT 13) (oT 14)),oN (.store X.sz (oT 25) (oT 20)),oR 26 (.iaddr X.sz (oT 15) (oT 16)),oN (.store X.sz (oT 26) (oT 24))] [(7,11)]) (.seq (oZ 0 [oM 27 1,oJ 28 .add 27 1,oM 29 2,oJ 30 .sub 29 1,oM 11 28,oM 12 30]) (.seq (.block 0 (.loop (.block 1 (.seq (.block 2 (.loop (.seq (.seq (.region true 1 [oM 31 11,oM 32 12,oB 33 .leq 31 32,oM 34 33,oG 35 (.mov (oT 4)) 34 true,oG 36 (.mov (oT 0)) 34 true,oG 37 (.mov (oT 1)) 34 true,oG 38 (.iaddr X.sz (oT 36) (oT 37)) 34 true,oG 39 (.load X.ag X.sz (oT 38)) 34 true,oG 40 (.mov (oT 0)) 34 true,oG 41 (.mov (oT 11)) 34 true,oG 42 (.iaddr X.sz (oT 40) (oT 41)) 34 true,oG 43 (.load X.ag X.sz (oT 42)) 34 true,oG 44 (.call (oT 35) [(oT 39),(oT 43)] 0) 34 true,⟨(.some 45),(.bin .lss (oT 44) (oI 0)),(.some (34,true)),[0]⟩,⟨(.some 46),(.un .not (oT 45)),(.some (34,true)),[0]⟩,⟨(.some 47),(.pick (oT 34) (oT 46) (.const (.bool false))),.none,[0]⟩] [(8,12)]) (oC 47 2)) (.block 3 (oZ 0 [oM 48 11,oJ 49 .add 48 1,oM 11 49]))))) (.seq (.block 4 (.loop (.seq (.seq (.region true 1 [oM 50 11,oM 51 12,oB 52 .leq 50 51,oM 53 52,oG 54 (.mov (oT 4)) 53 true,oG 55 (.mov (oT 0)) 53 true,oG 56 (.mov (oT 1)) 53 true,oG 57 (.iaddr X.sz (oT 55) (oT 56)) 53 true,oG 58 (.load X.ag X.sz (oT 57)) 53 true,oG 59 (.mov (oT 0)) 53 true,oG 60 (.mov (oT 12)) 53 true,oG 61 (.iaddr X.sz (oT 59) (oT 60)) 53 true,oG 62 (.load X.ag X.sz (oT 61)) 53 true,oG 63 (.call (oT 54) [(oT 58),(oT 62)] 0) 53 true,⟨(.some 64),(.bin .lss (oT 63) (oI 0)),(.some (53,true)),[0]⟩,⟨(.some 65),(.pick (oT 53) (oT 64) (.const (.bool false))),.none,[0]⟩] [(8,12)]) (oC 65 4)) (.block 5 (oZ 0 [oM 66 12,oJ 67 .sub 66 1,oM 12 67]))))) (.seq (.seq (oZ 0 [oM 68 11,oM 69 12,oB 70 .gtr 68 69]) (.cond (oT 70) (.exit 0) .skip)) (.seq (.region true 0 [oM 71 0,oM 72 11,oM 73 0,oM 74 12,oM 75 0,oM 76 12,oR 77 (.iaddr X.sz (oT 75) (oT 76)),oR 78 (.load X.ag X.sz (oT 77)),oM 79 0,oM 80 11,oR 81 (.iaddr X.sz (oT 79) (oT 80)),oR 82 (.load X.ag X.sz (oT 81)),oR 83 (.iaddr X.sz (oT 71) (oT 72)),oN (.store X.sz (oT 83) (oT 78)),oR 84 (.iaddr X.sz (oT 73) (oT 74)),oN (.store X.sz (oT 84) (oT 82))] [(7,11)]) (.seq (oZ 0 [oM 85 11,oJ 86 .add 85 1,oM 11 86]) (oZ 0 [oM 87 12,oJ 88 .sub 87 1,oM 12 88]))))))))) (.seq (oZ 0 [oM 89 11,oM 10 89]) .ret))))),2⟩
def cPart (X:SF):IFn:=⟨141,[(.tmp 8)],(.seq (oZ 0 [oR 8 (.mov (.const (.bool false)))]) (.seq (oZ 0 [oM 13 1,oJ 14 .add 13 1,oM 9 14]) (.seq (.seq (oZ 0 [oK 10 0]) (.block 0 (.loop (.seq (.seq (oZ 0 [oM 15 10,oJ 16 .lss 15 5]) (oC 16 0)) (.seq (.block 1 (.seq (.block 2 (.loop (.seq (.seq (.region true 1 [oM 19 9,oM 20 2,oB 21 .lss 19 20,oM 22 21,oG 23 (.mov (oT 3)) 22 true,oG 24 (.mov (oT 0)) 22 true,oG 25 (.mov (oT 9)) 22 true,oG 26 (.iaddr X.sz (oT 24) (oT 25)) 22 true,oG 27 (.load X.ag X.sz (oT 26)) 22 true,oG 28 (.mov (oT 0)) 22 true,oG 29 (.mov (oT 9)) 22 true,oG 30 (.bin .sub (oT 29) (oI 1)) 22 true,oG 31 (.iaddr X.sz (oT 28) (oT 30)) 22 true,oG 32 (.load X.ag X.sz (oT 31)) 22 true,oG 33 (.call (oT 23) [(oT 27),(oT 32)] 0) 22 true,⟨(.some 34),(.bin .lss (oT 33) (oI 0)),(.some (22,true)),[0]⟩,⟨(.some 35),(.un .not (oT 34)),(.some (22,true)),[0]⟩,⟨(.some 36),(.pick (oT 22) (oT 35) (.const (.bool false))),.none,[0]⟩] [(8,13)]) (oC 36 2)) (.block 3 (oZ 0 [oM 37 9,oJ 38 .add 37 1,oM 9 38]))))) (.seq (.seq (oZ 0 [oM 39 9,oM 40 2,oB 41 .eql 39 40]) (.cond (oT 41) (.seq (oZ 0 [oR 8 (.mov (.const (.bool true)))]) .ret) .skip)) (.seq (.seq (oZ 0 [oM 42 2,oM 43 1,oB 44 .sub 42 43,oJ 45 .lss 44 50]) (.cond (oT 45) (.seq (oZ 0 [oR 8 (.mov (.const (.bool false)))]) .ret) .skip)) (.seq (.region true 0 [oM 46 0,oM 47 9,oM 48 0,oM 49 9,oJ 50 .sub 49 1,oM 51 0,oM 52 9,oJ 53 .sub 52 1,oR 54 (.iaddr X.sz (oT 51) (oT 53)),oR 55 (.load X.ag X.sz (oT 54)),oM 56 0,oM 57 9,oR 58 (.iaddr X.sz (oT 56) (oT 57)),oR 59 (.load X.ag X.sz (oT 58)),oR 60 (.iaddr X.sz (oT 46) (oT 47)),oN (.store X.sz (oT 60) (oT 55)),oR 61 (.iaddr X.sz (oT 48) (oT 50)),oN (.store X.sz (oT 61) (oT 59))] [(9,13)]) (.seq (.seq (oZ 0 [oM 62 9,oM 63 1,oB 64 .sub 62 63,oJ 65 .geq 64 2]) (.cond (oT 65) (.seq (oZ 0 [oM 66 9,oJ 67 .sub 66 1,oM 11 67]) (.block 4 (.loop (.seq (.seq (oZ 0 [oM 68 11,oJ 69 .geq 68 1]) (oC 69 4)) (.seq (.block 5 (.seq (.seq (.region true 1 [oM 72 3,oM 73 0,oM 74 11,oR 75 (.iaddr X.sz (oT 73) (oT 74)),oR 76 (.load X.ag X.sz (oT 75)),oM 77 0,oM 78 11,oJ 79 .sub 78 1,oR 80 (.iaddr X.sz (oT 77) (oT 79)),oR 81 (.load X.ag X.sz (oT 80)),oR 82 (.call (oT 72) [(oT 76),(oT 81)] 0),⟨(.some 83),(.bin .lss (oT 82) (oI 0)),.none,[0]⟩,⟨(.some 84),(.un .not (oT 83)),.none,[0]⟩] [(4,9)]) (.cond (oT 84) (.exit 4) .skip)) (.region true 0 [oM 85 0,oM 86 11,oM 87 0,oM 88 11,oJ 89 .sub 88 1,oM 90 0,oM 91 11,oJ 92 .sub 91 1,oR 93 (.iaddr X.sz (oT 90) (oT 92)),oR 94 (.load X.ag X.sz (oT 93)),oM 95 0,oM 96 11,oR 97 (.iaddr X.sz (oT 95) (oT 96)),oR 98 (.load X.ag X.sz (oT 97)),oR 99 (.iaddr X.sz (oT 85) (oT 86)),oN (.store X.sz (oT 99) (oT 94)),oR 100 (.iaddr X.sz (oT 87) (oT 89)),oN (.store X.sz (oT 100) (oT 98))] [(9,13)]))) (oZ 0 [oM 70 11,oJ 71 .sub 70 1,oM 11 71])))))) .skip)) (.seq (oZ 0 [oM 101 2,oM 102 9,oB 103 .sub 101 102,oJ 104 .geq 103 2]) (.cond (oT 104) (.seq (oZ 0 [oM 105 9,oJ 106 .add 105 1,oM 12 106]) (.block 6 (.loop (.seq (.seq (oZ 0 [oM 107 12,oM 108 2,oB 109 .lss 107 108]) (oC 109 6)) (.seq (.block 7 (.seq (.seq (.region true 1 [oM 112 3,oM 113 0,oM 114 12,oR 115 (.iaddr X.sz (oT 113) (oT 114)),oR 116 (.load X.ag X.sz (oT 115)),oM 117 0,oM 118 12,oJ 119 .sub 118 1,oR 120 (.iaddr X.sz (oT 117) (oT 119)),oR 121 (.load X.ag X.sz (oT 120)),oR 122 (.call (oT 112) [(oT 116),(oT 121)] 0),⟨(.some 123),(.bin .lss (oT 122) (oI 0)),.none,[0]⟩,⟨(.some 124),(.un .not (oT 123)),.none,[0]⟩] [(4,9)]) (.cond (oT 124) (.exit 6) .skip)) (.region true 0 [oM 125 0,oM 126 12,oM 127 0,oM 128 12,oJ 129 .sub 128 1,oM 130 0,oM 131 12,oJ 132 .sub 131 1,oR 133 (.iaddr X.sz (oT 130) (oT 132)),oR 134 (.load X.ag X.sz (oT 133)),oM 135 0,oM 136 12,oR 137 (.iaddr X.sz (oT 135) (oT 136)),oR 138 (.load X.ag X.sz (oT 137)),oR 139 (.iaddr X.sz (oT 125) (oT 126)),oN (.store X.sz (oT 139) (oT 134)),oR 140 (.iaddr X.sz (oT 127) (oT 129)),oN (.store X.sz (oT 140) (oT 138))] [(9,13)]))) (oZ 0 [oM 110 12,oJ 111 .add 110 1,oM 12 111])))))) .skip)))))))) (oZ 0 [oM 17 10,oJ 18 .add 17 1,oM 10 18])))))) (.seq (oZ 0 [oR 8 (.mov (.const (.bool false)))]) .ret)))),2⟩
def cPar (X:SF):IFn:=⟨178,[(.tmp 10),(.tmp 11)],(.seq (oZ 0 [oK 10 0,oR 11 (.mov (.const (.bool false)))]) (.seq (.region true 0 [oM 14 0,oM 15 1,oM 16 0,oM 17 3,oM 18 0,oM 19 3,oR 20 (.iaddr X.sz (oT 18) (oT 19)),oR 21 (.load X.ag X.sz (oT 20)),oM 22 0,oM 23 1,oR 24 (.iaddr X.sz (oT 22) (oT 23)),oR 25 (.load X.ag X.sz (oT 24)),oR 26 (.iaddr X.sz (oT 14) (oT 15)),oN (.store X.sz (oT 26) (oT 21)),oR 27 (.iaddr X.sz (oT 16) (oT 17)),oN (.store X.sz (oT 27) (oT 25))] [(7,11)]) (.seq (oZ 0 [oM 28 1,oJ 29 .add 28 1,oM 30 2,oJ 31 .sub 30 1,oM 12 29,oM 13 31]) (.seq (.block 0 (.loop (.seq (.seq (.region true 1 [oM 32 12,oM 33 13,oB 34 .leq 32 33,oM 35 34,oG 36 (.mov (oT 4)) 35 true,oG 37 (.mov (oT 0)) 35 true,oG 38 (.mov (oT 12)) 35 true,oG 39 (.iaddr X.sz (oT 37) (oT 38)) 35 true,oG 40 (.load X.ag X.sz (oT 39)) 35 true,oG 41 (.mov (oT 0)) 35 true,oG 42 (.mov (oT 1)) 35 true,oG 43 (.iaddr X.sz (oT 41) (oT 42)) 35 true,oG 44 (.load X.ag X.sz (oT 43)) 35 true,oG 45 (.call (oT 36) [(oT 40),(oT 44)] 0) 35 true,⟨(.some 46),(.bin .lss (oT 45) (oI 0)),(.some (35,true)),[0]⟩,⟨(.some 47),(.pick (oT 35) (oT 46) (.const (.bool false))),.none,[0]⟩] [(8,12)]) (oC 47 0)) (.block 1 (oZ 0 [oM 48 12,oJ 49 .add 48 1,oM 12 49]))))) (.seq (.block 2 (.loop (.seq (.seq (.region true 1 [oM 50 12,oM 51 13,oB 52 .leq 50 51,oM 53 52,oG 54 (.mov (oT 4)) 53 true,oG 55 (.mov (oT 0)) 53 true,oG 56 (.mov (oT 13)) 53 true,oG 57 (.iaddr X.sz (oT 55) (oT 56)) 53 true,oG 58 (.load X.ag X.sz (oT 57)) 53 true,oG 59 (.mov (oT 0)) 53 true,oG 60 (.mov (oT 1)) 53 true,oG 61 (.iaddr X.sz (oT 59) (oT 60)) 53 true,oG 62 (.load X.ag X.sz (oT 61)) 53 true,oG 63 (.call (oT 54) [(oT 58),(oT 62)] 0) 53 true,⟨(.some 64),(.bin .lss (oT 63) (oI 0)),(.some (53,true)),[0]⟩,⟨(.some 65),(.un .not (oT 64)),(.some (53,true)),[0]⟩,⟨(.some 66),(.pick (oT 53) (oT 65) (.const (.bool false))),.none,[0]⟩] [(8,12)]) (oC 66 2)) (.block 3 (oZ 0 [oM 67 13,oJ 68 .sub 67 1,oM 13 68]))))) (.seq (.seq (oZ 0 [oM 69 12,oM 70 13,oB 71 .gtr 69 70]) (.cond (oT 71) (.seq (.region true 0 [oM 72 0,oM 73 13,oM 74 0,oM 75 1,oM 76 0,oM 77 1,oR 78 (.iaddr X.sz (oT 76) (oT 77)),oR 79 (.load X.ag X.sz (oT 78)),oM 80 0,oM 81 13,oR 82 (.iaddr X.sz (oT 80) (oT 81)),oR 83 (.load X.ag X.sz (oT 82)),oR 84 (.iaddr X.sz (oT 72) (oT 73)),oN (.store X.sz (oT 84) (oT 79)),oR 85 (.iaddr X.sz (oT 74) (oT 75)),oN (.store X.sz (oT 85) (oT 83))] [(7,11)]) (.seq (oZ 0 [oM 86 13,oM 10 86,oR 11 (.mov (.const (.bool true)))]) .ret)) .skip)) (.seq (.region true 0 [oM 87 0,oM 88 12,oM 89 0,oM 90 13,oM 91 0,oM 92 13,oR 93 (.iaddr X.sz (oT 91) (oT 92)),oR 94 (.load X.ag X.sz (oT 93)),oM 95 0,oM 96 12,oR 97 (.iaddr X.sz (oT 95) (oT 96)),oR 98 (.load X.ag X.sz (oT 97)),oR 99 (.iaddr X.sz (oT 87) (oT 88)),oN (.store X.sz (oT 99) (oT 94)),oR 100 (.iaddr X.sz (oT 89) (oT 90)),oN (.store X.sz (oT 100) (oT 98))] [(7,11)]) (.seq (oZ 0 [oM 101 12,oJ 102 .add 101 1,oM 12 102]) (.seq (oZ 0 [oM 103 13,oJ 104 .sub 103 1,oM 13 104]) (.seq (.block 4 (.loop (.block 5 (.seq (.block 6 (.loop (.seq (.seq (.region true 1 [oM 105 12,oM 106 13,oB 107 .leq 105 106,oM 108 107,oG 109 (.mov (oT 4)) 108 true,oG 110 (.mov (oT 0)) 108 true,oG 111 (.mov (oT 12)) 108 true,oG 112 (.iaddr X.sz (oT 110) (oT 111)) 108 true,oG 113 (.load X.ag X.sz (oT 112)) 108 true,oG 114 (.mov (oT 0)) 108 true,oG 115 (.mov (oT 1)) 108 true,oG 116 (.iaddr X.sz (oT 114) (oT 115)) 108 true,oG 117 (.load X.ag X.sz (oT 116)) 108 true,oG 118 (.call (oT 109) [(oT 113),(oT 117)] 0) 108 true,⟨(.some 119),(.bin .lss (oT 118) (oI 0)),(.some (108,true)),[0]⟩,⟨(.some 120),(.pick (oT 108) (oT 119) (.const (.bool false))),.none,[0]⟩] [(8,12)]) (oC 120 6)) (.block 7 (oZ 0 [oM 121 12,oJ 122 .add 121 1,oM 12 122]))))) (.seq (.block 8 (.loop (.seq (.seq (.region true 1 [oM 123 12,oM 124 13,oB 125 .leq 123 124,oM 126 125,oG 127 (.mov (oT 4)) 126 true,oG 128 (.mov (oT 0)) 126 true,oG 129 (.mov (oT 13)) 126 true,oG 130 (.iaddr X.sz (oT 128) (oT 129)) 126 true,oG 131 (.load X.ag X.sz (oT 130)) 126 true,oG 132 (.mov (oT 0)) 126 true,oG 133 (.mov (oT 1)) 126 true,oG 134 (.iaddr X.sz (oT 132) (oT 133)) 126 true,oG 135 (.load X.ag X.sz (oT 134)) 126 true,oG 136 (.call (oT 127) [(oT 131),(oT 135)] 0) 126 true,⟨(.some 137),(.bin .lss (oT 136) (oI 0)),(.some (126,true)),[0]⟩,⟨(.some 138),(.un .not (oT 137)),(.some (126,true)),[0]⟩,⟨(.some 139),(.pick (oT 126) (oT 138) (.const (.bool false))),.none,[0]⟩] [(8,12)]) (oC 139 8)) (.block 9 (oZ 0 [oM 140 13,oJ 141 .sub 140 1,oM 13 141]))))) (.seq (.seq (oZ 0 [oM 142 12,oM 143 13,oB 144 .gtr 142 143]) (.cond (oT 144) (.exit 4) .skip)) (.seq (.region true 0 [oM 145 0,oM 146 12,oM 147 0,oM 148 13,oM 149 0,oM 150 13,oR 151 (.iaddr X.sz (oT 149) (oT 150)),oR 152 (.load X.ag X.sz (oT 151)),oM 153 0,oM 154 12,oR 155 (.iaddr X.sz (oT 153) (oT 154)),oR 156 (.load X.ag X.sz (oT 155)),oR 157 (.iaddr X.sz (oT 145) (oT 146)),oN (.store X.sz (oT 157) (oT 152)),oR 158 (.iaddr X.sz (oT 147) (oT 148)),oN (.store X.sz (oT 158) (oT 156))] [(7,11)]) (.seq (oZ 0 [oM 159 12,oJ 160 .add 159 1,oM 12 160]) (oZ 0 [oM 161 13,oJ 162 .sub 161 1,oM 13 162]))))))))) (.seq (.region true 0 [oM 163 0,oM 164 13,oM 165 0,oM 166 1,oM 167 0,oM 168 1,oR 169 (.iaddr X.sz (oT 167) (oT 168)),oR 170 (.load X.ag X.sz (oT 169)),oM 171 0,oM 172 13,oR 173 (.iaddr X.sz (oT 171) (oT 172)),oR 174 (.load X.ag X.sz (oT 173)),oR 175 (.iaddr X.sz (oT 163) (oT 164)),oN (.store X.sz (oT 175) (oT 170)),oR 176 (.iaddr X.sz (oT 165) (oT 166)),oN (.store X.sz (oT 176) (oT 174))] [(7,11)]) (.seq (oZ 0 [oM 177 13,oM 10 177,oR 11 (.mov (.const (.bool false)))]) .ret)))))))))))),2⟩
def cPdq (X:SF):IFn:=⟨148,[],(.seq (oZ 0 [oR 10 (.mov (.const (.bool true)))]) (.seq (oZ 0 [oR 11 (.mov (.const (.bool true)))]) (.block 0 (.loop (.block 1 (.seq (oZ 0 [oM 21 2,oM 22 1,oB 23 .sub 21 22,oM 12 23]) (.seq (.seq (oZ 0 [oM 24 12,oJ 25 .leq 24 12]) (.cond (oT 25) (.seq (oZ 1 [oM 26 0,oM 27 1,oM 28 2,oM 29 4,oR 30 (.call (.const (.fn X.ins [] [])) [(oT 26),(oT 27),(oT 28),(oT 29)] 0)]) .ret) .skip)) (.seq (.seq (oZ 0 [oM 31 3,oJ 32 .eql 31 0]) (.cond (oT 32) (.seq (oZ 1 [oM 33 0,oM 34 1,oM 35 2,oM 36 4,oR 37 (.call (.const (.fn X.heap [] [])) [(oT 33),(oT 34),(oT 35),(oT 36)] 0)]) .ret) .skip)) (.seq (.seq (oZ 0 [oM 38 10,oR 39 (.un .not (oT 38))]) (.cond (oT 39) (.seq (oZ 1 [oM 40 0,oM 41 1,oM 42 2,oM 43 4,oR 44 (.call (.const (.fn X.brk [] [])) [(oT 40),(oT 41),(oT 42),(oT 43)] 0)]) (oZ 0 [oM 45 3,oJ 46 .sub 45 1,oM 3 46])) .skip)) (.seq (oZ 1 [oM 48 0,oM 49 1,oM 50 2,oM 51 4,oR 52 (.call (.const (.fn X.piv [] [])) [(oT 48),(oT 49),(oT 50),(oT 51)] 0),oM 47 52,oX 53 47 0,oX 54 47 1,oM 13 53,oM 14 54]) (.seq (.seq (oZ 0 [oM 55 14,oJ 56 .eql 55 2]) (.cond (oT 56) (.seq (oZ 1 [oM 57 0,oM 58 1,oM 59 2,oM 60 4,oR 61 (.call (.const (.fn X.rev [] [])) [(oT 57),(oT 58),(oT 59),(oT 60)] 0)]) (.seq (oZ 0 [oM 62 2,oJ 63 .sub 62 1,oM 64 13,oM 65 1,oB 66 .sub 64 65,oB 67 .sub 63 66,oM 13 67]) (oZ 0 [oK 14 1]))) .skip)) (.seq (.seq (oZ 0 [oM 68 10,oM 69 68,oG 70 (.mov (oT 11)) 69 true,oR 71 (.pick (oT 69) (oT 70) (.const (.bool false))),oM 72 71,oG 73 (.mov (oT 14)) 72 true,oG 74 (.bin .eql (oT 73) (oI 1)) 72 true,oR 75 (.pick (oT 72) (oT 74) (.const (.bool false)))]) (.cond (oT 75) (.seq (oZ 1 [oM 76 0,oM 77 1,oM 78 2,oM 79 4,oR 80 (.call (.const (.fn X.part [] [])) [(oT 76),(oT 77),(oT 78),(oT 79)] 0)]) (.cond (oT 80) .ret .skip)) .skip)) (.seq (.seq (.region true 1 [oM 81 1,oJ 82 .gtr 81 0,oM 83 82,oG 84 (.mov (oT 4)) 83 true,oG 85 (.mov (oT 0)) 83 true,oG 86 (.mov (oT 1)) 83 true,oG 87 (.bin .sub (oT 86) (oI 1)) 83 true,oG 88 (.iaddr X.sz (oT 85) (oT 87)) 83 true,oG 89 (.load X.ag X.sz (oT 88)) 83 true,oG 90 (.mov (oT 0)) 83 true,oG 91 (.mov (oT 13)) 83 true,oG 92 (.iaddr X.sz (oT 90) (oT 91)) 83 true,oG 93 (.load X.ag X.sz (oT 92)) 83 true,oG 94 (.call (oT 84) [(oT 89),(oT 93)] 0) 83 true,⟨(.some 95),(.bin .lss (oT 94) (oI 0)),(.some (83,true)),[0]⟩,⟨(.some 96),(.un .not (oT 95)),(.some (83,true)),[0]⟩,⟨(.some 97),(.pick (oT 83) (oT 96) (.const (.bool false))),.none,[0]⟩] [(8,12)]) (.cond (oT 97) (.seq (oZ 1 [oM 98 0,oM 99 1,oM 100 2,oM 101 13,oM 102 4,oR 103 (.call (.const (.fn X.parE [] [])) [(oT 98),(oT 99),(oT 100),(oT 101),(oT 102)] 0),oM 15 103]) (.seq (oZ 0 [oM 104 15,oM 1 104]) (.exit 1))) .skip)) (.seq (oZ 1 [oM 106 0,oM 107 1,oM 108 2,oM 109 13,oM 110 4,oR 111 (.call (.const (.fn X.par [] [])) [(oT 106),(oT 107),(oT 108),(oT 109),(oT 110)] 0),oM 105 111,oX 112 105 0,oX 113 105 1,oM 16 112,oM 17 113]) (.seq (oZ 0 [oM 114 17,oM 11 114]) (.seq (oZ 0 [oM 115 16,oM 116 1,oB 117 .sub 115 116,oM 118 2,oM 119 16,oB 120 .sub 118 119,oM 18 117,oM 19 120]) (.seq (oZ 0 [oM 121 12,oJ 122 .quo 121 8,oM 20 122]) (.seq (oZ 0 [oM 123 18,oM 124 19,oB 125 .lss 123 124]) (.cond (oT 125) (.seq (oZ 0 [oM 126 18,oM 127 20,oB 128 .geq 126 127,oM 10 128]) (.seq (oZ 1 [oM 129 0,oM 130 1,oM 131 16,oM 132 3,oM 133 4,oR 134 (.call (.const (.fn X.pdq [] [])) [(oT 129),(oT 130),(oT 131),(oT 132),(oT 133)] 0)]) (oZ 0 [oM 135 16,oJ 136 .add 135 1,oM 1 136]))) (.seq (oZ 0 [oM 137 19,oM 138 20,oB 139 .geq 137 138,oM 10 139]) (.seq (oZ 1 [oM 140 0,oM 141 16,oJ 142 .add 141 1,oM 143 2,oM 144 3,oM 145 4,oR 146 (.call (.const (.fn X.pdq [] [])) [(oT 140),(oT 142),(oT 143),(oT 144),(oT 145)] 0)]) (oZ 0 [oM 147 16,oM 2 147])))))))))))))))))))))),2⟩
def cSort (X:SF):IFn:=⟨14,[],(.seq (oZ 0 [oM 5 0,oE 6 1 5,oM 4 6]) (oZ 2 [oM 7 0,oM 8 4,oM 9 4,oR 10 (.conv .u64 (oT 9)),oR 11 (.call (.const (.fn 115 [] [])) [(oT 10)] 0),oM 12 1,oR 13 (.call (.const (.fn X.pdq [] [])) [(oT 7),(oI 0),(oT 8),(oT 11),(oT 12)] 1)])),2⟩
def qF:SF:=⟨1,false,183,196,184,200,198,197,187,186,185,189,188,190,165,150⟩
def uF:SF:=⟨2,true,133,157,134,182,161,160,137,136,135,139,138,140,114,85⟩
def setV:List IOpR->Nat->List (Nat × List Nat)->List IOpR
 | [],_,_=>[]
 | o::l,i,[]=>o::setV l (i+1) []
 | o::l,i,(k,v)::vs=>match Nat.beq i k with
  | true=>{ o with vis:=v }::setV l (i+1) vs
  | false=>o::setV l (i+1) ((k,v)::vs)
abbrev Ann:Type:=List (List (Nat × List Nat) × List (Nat × Nat))
def uK (P:Program):Nat->TypeId->Option (List Nat)
 | 0,_=>none
 | D+1,t=>match P.underlying t with
  | some .bool=>some [0]
  | some (.int _)=>some [1]
  | some .string=>some [2]
  | some (.struct fs)=>catK (uK P D) fs.toList 0
  | some (.array len e)=>(uK P D e).map fun l=>repK l len
  | _=>none
def uOp (P:Program) (o:Op) (slot:Nat):Option IOp :=
 match o with
 | .binOp op t x y z=>match P.underlying t,cOpd x,cOpd y with
  | some (.struct _),some x,some y=>(uK P 40 t).map fun ks=>.eqagg (match op with | .neq=>true | _=>false) ks x y
  | some (.array _ _),some x,some y=>(uK P 40 t).map fun ks=>.eqagg (match op with | .neq=>true | _=>false) ks x y
  | _,_,_=>cOp P (.binOp op t x y z) slot
 | .lookup t x ix ok=>match P.underlying t,cOpd x,cOpd ix with
  | some (.map k e),some y,some j=>match uK P 40 k,P.underlying k with
   | some kt,some u=>(zeroT P e).map fun z=>.lookup z (aggD u,kt) ok y j
   | _,_=>none
  | _,_,_=>none
 | .mapUpdate t m k v=>match P.underlying t,cOpd m,cOpd k,cOpd v with
  | some (.map kt _),some a,some b,some c=>match uK P 40 kt,P.underlying kt with
   | some l,some u=>some (.mapupd (aggD u,l) a b c)
   | _,_=>none
  | _,_,_,_=>none
 | o=>cOp P o slot
def uOps (P:Program) (ops:Array Oper):List Oper->Nat->Option (List IOpR × Nat)
 | [],s=>some ([],s)
 | o::rest,s=>match uOp P o.op s,cGuard ops o.guard with
  | some op,some g=>match uOps P ops rest (if op.makes then s+1 else s) with
   | some (l,s')=>some (⟨o.dst,op,g,[]⟩::l,s')
   | none=>none
  | _,_=>none
def uCode (P:Program):Code->Ann->Option (IC × Ann)
 | .skip,an=>some (.skip,an)
 | .region _ ops draw,an=>match uOps P ops ops.toList 0 with
  | none=>none
  | some (l,s)=>match draw,an with
   | false,an=>some (.region false s l [],an)
   | true,(vs,fr)::an=>some (.region true s (setV l 0 vs) fr,an)
   | true,[]=>none
 | .seq a b,an=>match uCode P a an with
  | some (x,an)=>match uCode P b an with
   | some (y,an)=>some (.seq x y,an)
   | none=>none
  | none=>none
 | .cond c a b,an=>match cOpd c,uCode P a an with
  | some z,some (x,an)=>match uCode P b an with
   | some (y,an)=>some (.cond z x y,an)
   | none=>none
  | _,_=>none
 | .block id a,an=>match uCode P a an with
  | some (x,an)=>some (.block id x,an)
  | none=>none
 | .loop a,an=>match uCode P a an with
  | some (x,an)=>some (.loop x,an)
  | none=>none
 | .exit id,an=>some (.exit id,an)
 | .ret,an=>some (.ret,an)
 | _,_=>none
def uCF (P:Program) (fn:Func) (an:Ann) (mode:Nat):Option IFn:=match fn.body with
 | none=>none
 | some c=>match uCode P c an,allM (cRes P) fn.results.toList with
  | some (b,_),some r=>some ⟨fn.ntmps,r,b,mode⟩
  | _,_=>none
abbrev uFn (mode:Nat) (fn:Func) (an:Ann) (i:IFn) (_:uCF Tryz.prog fn an mode=some i):IFn:=i
noncomputable def i3:IFn:=by
 refine uFn 0 Tryz.f3 [([(5,[0]),(6,[0,1]),(7,[0,1]),(8,[0,1]),(9,[0,1]),(10,[0,1]),(11,[0,1]),(12,[0,1]),(13,[0,1,2]),(14,[0,1,2,3]),(15,[0,1,2,3]),(16,[0,1,2,3]),(17,[0,1,2,3]),(18,[0,1,2,3]),(19,[0,1,2,3]),(20,[0,1,2,3]),(21,[0,1,2,3]),(22,[0,1,2,3,4]),(23,[0,1,2,3,4,5]),(24,[0,1,2,3,4,5]),(25,[0,1,2,3,4,5]),(26,[0,1,2,3,4,5]),(27,[0,1,2,3,4,5]),(28,[0,1,2,3,4,5]),(29,[0,1,2,3,4,5,6]),(30,[0,1,2,3,4,5,6]),(31,[0,1,2,3,4,5,6]),(32,[0,1,2,3,4,5,6,7]),(33,[0,1,2,3,4,5,6,7])],[(0,3),(2,3),(8,9),(8,11),(9,11),(10,11),(8,12),(9,12),(10,12),(11,12),(17,18),(17,20),(18,20),(19,20),(17,21),(18,21),(19,21),(20,21),(26,27)])] ?_ ?h; case h=>conv=>lhs; reduce; simp only [Int.reduceOfNat]
noncomputable def i4:IFn:=by
 refine uFn 0 Tryz.f4 [] ?_ ?h; case h=>conv=>lhs; reduce; simp only [Int.reduceOfNat]
noncomputable def i5:IFn:=by
 refine uFn 0 Tryz.f5 [([(2,[0]),(3,[0,1]),(4,[0,1]),(5,[0,1]),(6,[0,1]),(7,[0,1,2]),(8,[0,1,2,3]),(9,[0,1,2,3]),(10,[0,1,2,3]),(11,[0,1,2,3]),(12,[0,1,2,3]),(13,[0,1,2,3,4]),(14,[0,1,2,3,4,5]),(15,[0,1,2,3,4,5]),(16,[0,1,2,3,4,5]),(17,[0,1,2,3,4,5]),(18,[0,1,2,3,4,5]),(19,[0,1,2,3,4,5,6]),(20,[0,1,2,3,4,5,6,7]),(21,[0,1,2,3,4,5,6,7]),(22,[0,1,2,3,4,5,6,7]),(23,[0,1,2,3,4,5,6,7]),(24,[0,1,2,3,4,5,6,7]),(25,[0,1,2,3,4,5,6,7,8]),(26,[0,1,2,3,4,5,6,7,8,9]),(27,[0,1,2,3,4,5,6,7,8,9]),(28,[0,1,2,3,4,5,6,7,8,9]),(29,[0,1,2,3,4,5,6,7,8,9]),(30,[0,1,2,3,4,5,6,7,8,9,10]),(31,[0,1,2,3,4,5,6,7,8,9,10,11]),(32,[0,1,2,3,4,5,6,7,8,9,10,11]),(33,[0,1,2,3,4,5,6,7,8,9,10,11]),(34,[0,1,2,3,4,5,6,7,8,9,10,11]),(35,[0,1,2,3,4,5,6,7,8,9,10,11,12]),(36,[0,1,2,3,4,5,6,7,8,9,10,11,12]),(37,[0,1,2,3,4,5,6,7,8,9,10,11,12]),(38,[0,1,2,3,4,5,6,7,8,9,10,11,12]),(39,[0,1,2,3,4,5,6,7,8,9,10,11,12]),(40,[0,1,2,3,4,5,6,7,8,9,10,11,12]),(41,[0,1,2,3,4,5,6,7,8,9,10,11,12,13]),(42,[0,1,2,3,4,5,6,7,8,9,10,11,12,13,14]),(43,[0,1,2,3,4,5,6,7,8,9,10,11,12,13,14]),(44,[0,1,2,3,4,5,6,7,8,9,10,11,12,13,14]),(45,[0,1,2,3,4,5,6,7,8,9,10,11,12,13,14]),(46,[0,1,2,3,4,5,6,7,8,9,10,11,12,13,14]),(47,[0,1,2,3,4,5,6,7,8,9,10,11,12,13,14,15]),(48,[0,1,2,3,4,5,6,7,8,9,10,11,12,13,14,15,16]),(49,[0,1,2,3,4,5,6,7,8,9,10,11,12,13,14,15,16]),(50,[0,1,2,3,4,5,6,7,8,9,10,11,12,13,14,15,16])],[(38,40),(44,46)])] ?_ ?h; case h=>conv=>lhs; reduce; simp only [Int.reduceOfNat]
def i6:IFn:=⟨105,[(.tmp 4)],(.seq (oZ 1 [oH 2 0 0,oK 4 0]) (.seq (oZ 2 [oA 16 4 2,oM 17 1,oR 18 (.call (.const (.fn 13 [] [])) [(oT 16),(oT 17)] 0),oM 15 18,oX 19 15 0,oX 20 15 1,oR 5 (.newv [(.int .i64 0),(.int .i64 0),(.int .i64 0),(.str (bs [])),.nilsl] 1),oN (.store 5 (oT 5) (oT 19)),oM 6 20]) (.seq (.seq (oZ 2 [oM 21 6,oR 22 (.un .not (oT 21)),oM 23 22,oG 24 (.faddr 1 (oT 5)) 23 false,oG 25 (.load false 1 (oT 24)) 23 false,oG 26 (.call (.const (.fn 17 [] [])) [(oT 25)] 0) 23 false,oG 27 (.bin .neq (oT 26) (oI 3)) 23 false,oR 28 (.pick (oT 23) (.const (.bool true)) (oT 27)),oM 29 28,oG 30 (.faddr 0 (oT 2)) 29 false,oG 31 (.load true 3 (oT 30)) 29 false,oG 32 (.call (.const (.fn 18 [] [])) [(oT 31)] 1) 29 false,oG 33 (.bin .neq (oT 32) (oI 0)) 29 false,oR 34 (.pick (oT 29) (.const (.bool true)) (oT 33))]) (.cond (oT 34) (.seq (oZ 0 [oK 4 0]) .ret) .skip)) (.seq (.seq (oZ 0 [oF 35 0 2,oF 36 1 35,oL 37 36,oE 38 1 37,oK 39 0]) (.block 0 (.loop (.seq (oZ 0 [oB 40 .lss 39 38]) (.seq (oC 40 0) (.seq (.block 1 (.seq (oZ 1 [oD 41 6 37 39,oA 42 6 41,oR 8 (.newv [(.int .i64 0),(.int .i64 0),(.int .i64 0),.nilsl,(.int .i64 0),(.int .i64 0)] 0),oN (.store 6 (oT 8) (oT 42))]) (.seq (.region true 2 [oF 43 4 5,oL 44 43,oF 45 4 8,oL 46 45,oR 47 (.call (.const (.fn 19 [] [])) [(oT 44),(oT 46)] 0),oF 48 4 5,oL 49 48,oF 50 5 8,oL 51 50,⟨(.some 52),(.call (.const (.fn 19 [] [])) [(oT 49),(oT 51)] 1),.none,[0]⟩,⟨(.some 9),(.mov (oT 47)),.none,[0,1]⟩,⟨(.some 10),(.mov (oT 52)),.none,[0,1]⟩] [(1,3),(1,6),(3,6),(4,6),(1,8),(3,8),(4,8),(6,8)]) (.seq (.seq (oZ 0 [oM 53 9,oM 54 10,oR 55 (.eqb false (oT 53) (oT 54))]) (.cond (oT 55) (.exit 1) .skip)) (.seq (oZ 0 [oK 11 0]) (.seq (oZ 1 [oF 57 0 2,oA 58 3 57,oF 59 0 8,oL 60 59,oR 61 (.call (.const (.fn 20 [] [])) [(oT 58),(oT 60)] 0),oM 56 61,oX 62 56 0,oX 63 56 1,oM 12 62,oM 13 63]) (.seq (.seq (oZ 0 [oK 14 1]) (.block 2 (.loop (.seq (.seq (oZ 0 [oM 64 14,oM 65 12,oE 66 1 65,oB 67 .lss 64 66]) (oC 67 2)) (.seq (.block 3 (.region true 0 [oM 70 11,oM 71 12,oM 72 14,oJ 73 .sub 72 1,oD 74 2 71 73,oF 75 0 74,oL 76 75,oM 77 12,oM 78 14,oD 79 2 77 78,oF 80 1 79,oL 81 80,oB 82 .mul 76 81,oM 83 12,oM 84 14,oD 85 2 83 84,oF 86 0 85,oL 87 86,oM 88 12,oM 89 14,oJ 90 .sub 89 1,oD 91 2 88 90,oF 92 1 91,oL 93 92,oB 94 .mul 87 93,oB 95 .sub 82 94,oB 96 .add 70 95,oM 11 96] [(6,11),(6,17),(11,17),(6,23),(11,23),(17,23)])) (oZ 0 [oM 68 14,oJ 69 .add 68 1,oM 14 69])))))) (.seq (.seq (oZ 0 [oM 97 10]) (.cond (oT 97) (oZ 0 [oM 98 11,oR 99 (.un .neg (oT 98)),oM 11 99]) .skip)) (oZ 0 [oM 100 4,oM 101 11,oB 102 .add 100 101,oM 4 102]))))))))) (oZ 0 [oJ 103 .add 39 1,oM 39 103]))))))) (.seq (oZ 0 [oM 104 4,oM 4 104]) .ret))))),0⟩
def i7:IFn:=⟨73,[(.tmp 4)],(.seq (oZ 1 [oH 2 0 0,oK 4 0]) (.seq (oZ 2 [oA 13 4 2,oM 14 1,oR 15 (.call (.const (.fn 21 [] [])) [(oT 13),(oT 14)] 0),oM 12 15,oX 16 12 0,oX 17 12 1,oR 5 (.newv [(.int .i64 0),(.int .i64 0),(.int .i64 0),(.str (bs [])),.nilsl] 1),oN (.store 5 (oT 5) (oT 16)),oM 6 17]) (.seq (.seq (oZ 2 [oM 18 6,oR 19 (.un .not (oT 18)),oM 20 19,oG 21 (.faddr 1 (oT 5)) 20 false,oG 22 (.load false 1 (oT 21)) 20 false,oG 23 (.call (.const (.fn 22 [] [])) [(oT 22)] 0) 20 false,oG 24 (.bin .neq (oT 23) (oI 3)) 20 false,oR 25 (.pick (oT 20) (.const (.bool true)) (oT 24)),oM 26 25,oG 27 (.faddr 0 (oT 2)) 26 false,oG 28 (.load true 3 (oT 27)) 26 false,oG 29 (.call (.const (.fn 23 [] [])) [(oT 28)] 1) 26 false,oG 30 (.bin .neq (oT 29) (oI 0)) 26 false,oR 31 (.pick (oT 26) (.const (.bool true)) (oT 30))]) (.cond (oT 31) (.seq (oZ 0 [oK 4 0]) .ret) .skip)) (.seq (oZ 0 [oK 7 0]) (.seq (.seq (oZ 0 [oK 8 0]) (.block 0 (.loop (.seq (.seq (oZ 0 [oM 32 8,oF 33 0 2,oF 34 1 33,oL 35 34,oE 36 1 35,oB 37 .lss 32 36]) (oC 37 0)) (.seq (.block 1 (.seq (oZ 1 [oF 40 0 2,oF 41 1 40,oL 42 41,oM 43 8,oD 44 6 42 43,oA 45 6 44,oR 9 (.newv [(.int .i64 0),(.int .i64 0),(.int .i64 0),.nilsl,(.int .i64 0),(.int .i64 0)] 0),oN (.store 6 (oT 9) (oT 45))]) (.seq (oZ 1 [oF 47 0 2,oA 48 3 47,oF 49 0 9,oL 50 49,oR 51 (.call (.const (.fn 24 [] [])) [(oT 48),(oT 50)] 0),oM 46 51,oX 52 46 0,oX 53 46 1,oM 10 52,oM 11 53]) (.seq (.seq (oZ 1 [oF 54 4 5,oL 55 54,oF 56 4 9,oL 57 56,oR 58 (.call (.const (.fn 25 [] [])) [(oT 55),(oT 57)] 0)]) (.cond (oT 58) (oZ 1 [oM 59 7,oM 60 10,oR 61 (.call (.const (.fn 26 [] [])) [(oT 60)] 0),oB 62 .add 59 61,oM 7 62]) .skip)) (.seq (oZ 1 [oF 63 4 5,oL 64 63,oF 65 5 9,oL 66 65,oR 67 (.call (.const (.fn 25 [] [])) [(oT 64),(oT 66)] 0)]) (.cond (oT 67) (oZ 1 [oM 68 7,oM 69 10,oR 70 (.call (.const (.fn 26 [] [])) [(oT 69)] 0),oB 71 .sub 68 70,oM 7 71]) .skip)))))) (oZ 0 [oM 38 8,oJ 39 .add 38 1,oM 8 39])))))) (.seq (oZ 0 [oM 72 7,oM 4 72]) .ret)))))),0⟩
noncomputable def i8:IFn:=by
 refine uFn 0 Tryz.f8 [] ?_ ?h; case h=>conv=>lhs; reduce; simp only [Int.reduceOfNat]
noncomputable def i9:IFn:=by
 refine uFn 0 Tryz.f9 [([(11,[0])],[(1,6),(4,6),(1,9),(4,9)])] ?_ ?h; case h=>conv=>lhs; reduce; simp only [Int.reduceOfNat]
noncomputable def i10:IFn:=by
 refine uFn 0 Tryz.f10 [] ?_ ?h; case h=>conv=>lhs; reduce; simp only [Int.reduceOfNat]
def i11:IFn:=⟨28,[(.cell true 4 8)],(.seq (oZ 1 [oR 8 (.newv [.nilsl,.nilsl,.nilsl,.nilsl] 0)]) (.seq (oZ 1 [oR 10 (.build [(.int .i64 0),(.int .i64 0),(.int .i64 0)] [(0,(1,(oI 1)))]),oR 11 (.bslice [(.int .i64 0),(.int .i64 0),(.int .i64 0)] 3 1 [(0,(3,(oT 10)))]),oR 12 (.build [(.int .i64 0),(.int .i64 0)] [(0,(1,(oI 10)))]),oR 13 (.build [(.int .i64 0),(.int .i64 0)] [(0,(1,(oI 10))),(1,(1,(oI 10)))]),oR 14 (.build [(.int .i64 0),(.int .i64 0)] [(1,(1,(oI 10)))]),oR 15 (.bslice [(.int .i64 0),(.int .i64 0)] 2 3 [(0,(2,(oT 12))),(2,(2,(oT 13))),(4,(2,(oT 14)))]),oR 16 (.build [(.int .i64 0),(.int .i64 0),(.int .i64 0),.nilsl,(.int .i64 0),(.int .i64 0)] [(0,(1,(oI 1))),(1,(1,(oI 1))),(2,(1,(oI 1))),(3,(1,(oT 15))),(4,(1,(oI 1)))]),oR 17 (.bslice [(.int .i64 0),(.int .i64 0),(.int .i64 0),.nilsl,(.int .i64 0),(.int .i64 0)] 6 1 [(0,(6,(oT 16)))]),oR 18 (.bslice [(.int .i64 0)] 1 1 [(0,(1,(oI 1)))]),oR 19 (.build [.nilsl,.nilsl,.nilsl] [(0,(1,(oT 11))),(1,(1,(oT 17))),(2,(1,(oT 18)))]),oR 9 (.newv [.nilsl,.nilsl,.nilsl] 0),oN (.store 3 (oT 9) (oT 19))]) (.seq (oZ 0 [oA 20 3 9,oM 21 0,oM 22 1,oM 23 2,oM 24 3,oR 25 (.build [(.int .i64 0),(.int .i64 0),(.int .i64 0),(.str (bs [])),.nilsl] [(0,(1,(oI 5))),(1,(1,(oT 21))),(2,(1,(oT 22))),(3,(1,(oT 23))),(4,(1,(oT 24)))]),oR 26 (.bslice [(.int .i64 0),(.int .i64 0),(.int .i64 0),(.str (bs [])),.nilsl] 5 1 [(0,(5,(oT 25)))]),oR 27 (.build [.nilsl,.nilsl,.nilsl,.nilsl] [(0,(3,(oT 20))),(3,(1,(oT 26)))]),oN (.store 4 (oT 8) (oT 27))]) .ret))),0⟩
def i12:IFn:=⟨99,[(.cell true 4 4),(.tmp 5)],(.seq (oZ 2 [oH 2 0 0,oR 4 (.newv [(.int .i64 0),(.int .i64 0),(.int .i64 0),(.int .i64 0)] 1),oR 5 (.mov (.const (.bool false)))]) (.seq (oZ 2 [oA 18 4 2,oM 19 1,oR 20 (.call (.const (.fn 13 [] [])) [(oT 18),(oT 19)] 0),oM 17 20,oX 21 17 0,oX 22 17 1,oR 6 (.newv [(.int .i64 0),(.int .i64 0),(.int .i64 0),(.str (bs [])),.nilsl] 1),oN (.store 5 (oT 6) (oT 21)),oM 5 22]) (.seq (.seq (oZ 0 [oM 23 5,oR 24 (.un .not (oT 23))]) (.cond (oT 24) (.seq (oZ 0 [oA 25 4 4,oN (.store 4 (oT 4) (oT 25)),oR 5 (.mov (.const (.bool false)))]) .ret) .skip)) (.seq (oZ 1 [oR 7 (.newv [.nilsl] 0)]) (.seq (oZ 0 [oR 26 (.mkfn 33 [] [(oT 2),(oT 7)]),oM 8 26]) (.seq (.seq (oZ 1 [oF 27 1 6,oL 28 27,oR 29 (.call (.const (.fn 17 [] [])) [(oT 28)] 0)]) (.block 0 (.seq (oZ 0 [oJ 31 .eql 29 1,oM 30 31]) (.cond (oT 30) (.seq (oZ 0 [oF 32 4 6,oL 33 32,oE 34 1 33,oK 35 0]) (.block 1 (.loop (.seq (oZ 0 [oB 36 .lss 35 34]) (.seq (oC 36 1) (.seq (.block 2 (.seq (oZ 0 [oD 37 1 33 35,oL 38 37,oM 10 38]) (.seq (oZ 2 [oF 40 0 2,oA 41 3 40,oM 42 10,oR 43 (.call (.const (.fn 34 [] [])) [(oT 41),(oT 42)] 0),oM 39 43,oX 44 39 0,oX 45 39 1,oR 11 (.newv [(.int .i64 0),(.int .i64 0),(.int .i64 0)] 1),oN (.store 3 (oT 11) (oT 44)),oM 12 45]) (.seq (oZ 0 [oM 46 12]) (.cond (oT 46) (oZ 1 [oL 47 7,oF 48 1 11,oA 49 2 48,oR 50 (.bslice [(.int .i64 0),(.int .i64 0)] 2 1 [(0,(2,(oT 49)))]),oR 51 (.append [(.int .i64 0),(.int .i64 0)] 2 false (oT 47) (oT 50) 0),oN (.store 1 (oT 7) (oT 51))]) .skip))))) (oZ 0 [oJ 52 .add 35 1,oM 35 52]))))))) (.seq (oZ 0 [oJ 54 .eql 29 2,oM 53 54]) (.cond (oT 53) (.seq (oZ 0 [oF 55 4 6,oL 56 55,oE 57 1 56,oK 58 0]) (.block 3 (.loop (.seq (oZ 0 [oB 59 .lss 58 57]) (.seq (oC 59 3) (.seq (.block 4 (.seq (oZ 0 [oD 60 1 56 58,oL 61 60,oM 14 61]) (oZ 1 [oM 62 8,oM 63 14,oR 64 (.call (oT 62) [(oT 63)] 0)]))) (oZ 0 [oJ 65 .add 58 1,oM 58 65]))))))) (.seq (oZ 0 [oJ 67 .eql 29 3,oM 66 67]) (.cond (oT 66) (.seq (oZ 0 [oF 68 0 2,oF 69 1 68,oL 70 69,oE 71 1 70,oK 72 0]) (.block 5 (.loop (.seq (oZ 0 [oB 73 .lss 72 71]) (.seq (oC 73 5) (.seq (.block 6 (.seq (oZ 1 [oD 74 6 70 72,oA 75 6 74,oR 16 (.newv [(.int .i64 0),(.int .i64 0),(.int .i64 0),.nilsl,(.int .i64 0),(.int .i64 0)] 0),oN (.store 6 (oT 16) (oT 75))]) (.seq (oZ 2 [oF 76 4 6,oL 77 76,oF 78 4 16,oL 79 78,oR 80 (.call (.const (.fn 19 [] [])) [(oT 77),(oT 79)] 0),oM 81 80,oG 82 (.faddr 4 (oT 6)) 81 false,oG 83 (.load false 1 (oT 82)) 81 false,oG 84 (.faddr 5 (oT 16)) 81 false,oG 85 (.load false 1 (oT 84)) 81 false,oG 86 (.call (.const (.fn 19 [] [])) [(oT 83),(oT 85)] 1) 81 false,oR 87 (.pick (oT 81) (.const (.bool true)) (oT 86))]) (.cond (oT 87) (oZ 1 [oM 88 8,oF 89 0 16,oL 90 89,oR 91 (.call (oT 88) [(oT 90)] 0)]) .skip)))) (oZ 0 [oJ 92 .add 72 1,oM 72 92]))))))) .skip)))))))) (.seq (.seq (oZ 0 [oL 93 7,oE 94 1 93,oJ 95 .eql 94 0]) (.cond (oT 95) (.seq (oZ 0 [oA 96 4 4,oN (.store 4 (oT 4) (oT 96)),oR 5 (.mov (.const (.bool false)))]) .ret) .skip)) (.seq (oZ 1 [oL 97 7,oR 98 (.call (.const (.fn 35 [] [])) [(oT 97)] 0),oN (.store 4 (oT 4) (oT 98)),oR 5 (.mov (.const (.bool true)))]) .ret)))))))),0⟩
def i13:IFn:=⟨26,[(.cell true 5 4),(.tmp 5)],(.seq (oZ 2 [oH 2 0 0,oR 4 (.newv [(.int .i64 0),(.int .i64 0),(.int .i64 0),(.str (bs [])),.nilsl] 1),oR 5 (.mov (.const (.bool false)))]) (.seq (.seq (oZ 0 [oF 8 3 2,oL 9 8,oE 10 1 9,oK 11 0]) (.block 0 (.loop (.seq (oZ 0 [oB 12 .lss 11 10]) (.seq (oC 12 0) (.seq (.block 1 (.seq (oZ 1 [oD 13 5 9 11,oA 14 5 13,oR 7 (.newv [(.int .i64 0),(.int .i64 0),(.int .i64 0),(.str (bs [])),.nilsl] 0),oN (.store 5 (oT 7) (oT 14))]) (.seq (oZ 0 [oF 15 0 7,oL 16 15,oM 17 1,oB 18 .eql 16 17]) (.cond (oT 18) (.seq (oZ 1 [oF 19 4 7,oL 20 19,oR 21 (.call (.const (.fn 36 [] [])) [(oT 20)] 0),oF 22 4 7,oN (.store 1 (oT 22) (oT 21))]) (.seq (oZ 0 [oA 23 5 7,oN (.store 5 (oT 4) (oT 23)),oR 5 (.mov (.const (.bool true)))]) .ret)) .skip)))) (oZ 0 [oJ 24 .add 11 1,oM 11 24]))))))) (.seq (oZ 0 [oA 25 5 4,oN (.store 5 (oT 4) (oT 25)),oR 5 (.mov (.const (.bool false)))]) .ret))),0⟩
noncomputable def i14:IFn:=by
 refine uFn 0 Tryz.f14 [] ?_ ?h; case h=>conv=>lhs; reduce; simp only [Int.reduceOfNat]
noncomputable def i15:IFn:=by
 refine uFn 0 Tryz.f15 [([],[(3,7)])] ?_ ?h; case h=>conv=>lhs; reduce; simp only [Int.reduceOfNat]
def i16:IFn:=⟨40,[(.tmp 6)],(.seq (oZ 1 [oH 3 0 0,oR 6 (.mov (.const .nilsl))]) (.seq (.seq (oZ 0 [oM 9 1,oJ 10 .lss 9 1,oM 11 10,oG 12 (.mov (oT 1)) 11 false,oG 13 (.bin .gtr (oT 12) (oI 3)) 11 false,oR 14 (.pick (oT 11) (.const (.bool true)) (oT 13))]) (.cond (oT 14) (.seq (oZ 0 [oR 6 (.mov (.const .nilsl))]) .ret) .skip)) (.seq (.seq (oZ 0 [oF 15 3 3,oL 16 15,oE 17 1 16,oK 18 0]) (.block 0 (.loop (.seq (oZ 0 [oB 19 .lss 18 17]) (.seq (oC 19 0) (.seq (.block 1 (.seq (oZ 1 [oD 20 5 16 18,oA 21 5 20,oR 8 (.newv [(.int .i64 0),(.int .i64 0),(.int .i64 0),(.str (bs [])),.nilsl] 0),oN (.store 5 (oT 8) (oT 21))]) (.seq (oZ 2 [oF 22 1 8,oL 23 22,oR 24 (.call (.const (.fn 17 [] [])) [(oT 23)] 0),oM 25 1,oB 26 .eql 24 25,oM 27 26,oG 28 (.faddr 4 (oT 8)) 27 true,oG 29 (.load false 1 (oT 28)) 27 true,oG 30 (.mov (oT 2)) 27 true,oG 31 (.call (.const (.fn 19 [] [])) [(oT 29),(oT 30)] 1) 27 true,oR 32 (.pick (oT 27) (oT 31) (.const (.bool false)))]) (.cond (oT 32) (oZ 1 [oM 33 6,oF 34 0 8,oL 35 34,oR 36 (.bslice [(.int .i64 0)] 1 1 [(0,(1,(oT 35)))]),oR 37 (.append [(.int .i64 0)] 1 false (oT 33) (oT 36) 0),oM 6 37]) .skip)))) (oZ 0 [oJ 38 .add 18 1,oM 18 38]))))))) (.seq (oZ 0 [oM 39 6,oM 6 39]) .ret)))),0⟩
noncomputable def i17:IFn:=by
 refine uFn 0 Tryz.f17 [] ?_ ?h; case h=>conv=>lhs; reduce; simp only [Int.reduceOfNat]
noncomputable def i18:IFn:=by
 refine uFn 0 Tryz.f18 [] ?_ ?h; case h=>conv=>lhs; reduce; simp only [Int.reduceOfNat]
noncomputable def i19:IFn:=by
 refine uFn 0 Tryz.f19 [] ?_ ?h; case h=>conv=>lhs; reduce; simp only [Int.reduceOfNat]
noncomputable def i20:IFn:=by
 refine uFn 0 Tryz.f20 [] ?_ ?h; case h=>conv=>lhs; reduce; simp only [Int.reduceOfNat]
def i21:IFn:=⟨35,[(.cell true 5 4),(.tmp 5)],(.seq (oZ 2 [oH 2 0 0,oR 4 (.newv [(.int .i64 0),(.int .i64 0),(.int .i64 0),(.str (bs [])),.nilsl] 1),oR 5 (.mov (.const (.bool false)))]) (.seq (.seq (oZ 0 [oK 6 0]) (.block 0 (.loop (.seq (.seq (oZ 0 [oM 8 6,oF 9 3 2,oL 10 9,oE 11 1 10,oB 12 .lss 8 11]) (oC 12 0)) (.seq (.block 1 (.seq (oZ 0 [oF 15 3 2,oL 16 15,oM 17 6,oD 18 5 16 17,oF 19 0 18,oL 20 19,oM 21 1,oB 22 .eql 20 21]) (.cond (oT 22) (.seq (oZ 1 [oF 23 3 2,oL 24 23,oM 25 6,oD 26 5 24 25,oA 27 5 26,oR 7 (.newv [(.int .i64 0),(.int .i64 0),(.int .i64 0),(.str (bs [])),.nilsl] 0),oN (.store 5 (oT 7) (oT 27))]) (.seq (oZ 1 [oR 28 (.bslice [(.int .i64 0)] 1 0 []),oF 29 4 7,oL 30 29,oR 31 (.append [(.int .i64 0)] 1 false (oT 28) (oT 30) 0),oF 32 4 7,oN (.store 1 (oT 32) (oT 31))]) (.seq (oZ 0 [oA 33 5 7,oN (.store 5 (oT 4) (oT 33)),oR 5 (.mov (.const (.bool true)))]) .ret))) .skip))) (oZ 0 [oM 13 6,oJ 14 .add 13 1,oM 6 14])))))) (.seq (oZ 0 [oR 34 (.build [(.int .i64 0),(.int .i64 0),(.int .i64 0),(.str (bs [])),.nilsl] []),oN (.store 5 (oT 4) (oT 34)),oR 5 (.mov (.const (.bool false)))]) .ret))),0⟩
noncomputable def i22:IFn:=by
 refine uFn 0 Tryz.f22 [] ?_ ?h; case h=>conv=>lhs; reduce; simp only [Int.reduceOfNat]
noncomputable def i23:IFn:=by
 refine uFn 0 Tryz.f23 [([(7,[0]),(8,[0]),(9,[0]),(10,[0]),(11,[0])],[(0,2),(0,5)]),([(8,[0]),(9,[0]),(10,[0]),(11,[0]),(12,[0]),(13,[0]),(14,[0]),(15,[0]),(16,[0]),(17,[0]),(18,[0,1]),(19,[0,1])],[(0,2),(0,6),(10,12),(10,16)])] ?_ ?h; case h=>conv=>lhs; reduce; simp only [Int.reduceOfNat]
noncomputable def i24:IFn:=by
 refine uFn 0 Tryz.f24 [] ?_ ?h; case h=>conv=>lhs; reduce; simp only [Int.reduceOfNat]
noncomputable def i25:IFn:=by
 refine uFn 0 Tryz.f25 [] ?_ ?h; case h=>conv=>lhs; reduce; simp only [Int.reduceOfNat]
noncomputable def i26:IFn:=by
 refine uFn 0 Tryz.f26 [([],[(5,11),(5,19),(11,19),(5,24),(11,24),(19,24)])] ?_ ?h; case h=>conv=>lhs; reduce; simp only [Int.reduceOfNat]
noncomputable def i27:IFn:=by
 refine uFn 0 Tryz.f27 [] ?_ ?h; case h=>conv=>lhs; reduce; simp only [Int.reduceOfNat]
def i28:IFn:=⟨32,[(.tmp 6)],(.seq (oZ 0 [oR 6 (.mov (.const (.bool false)))]) (.seq (.seq (oZ 0 [oM 10 0,oE 11 1 10,oM 12 1,oE 13 1 12,oB 14 .neq 11 13]) (.cond (oT 14) (.seq (oZ 0 [oR 6 (.mov (.const (.bool false)))]) .ret) .skip)) (.seq (.seq (oZ 0 [oM 15 0,oE 16 1 15,oK 17 0]) (.block 0 (.loop (.seq (oZ 0 [oB 18 .lss 17 16]) (.seq (oC 18 0) (.seq (.block 1 (.seq (oZ 1 [oM 19 17,oD 20 5 15 17,oA 21 5 20,oR 8 (.newv [(.int .i64 0),(.int .i64 0),(.int .i64 0),(.str (bs [])),.nilsl] 0),oM 7 19,oN (.store 5 (oT 8) (oT 21))]) (.seq (oZ 1 [oM 22 1,oM 23 7,oD 24 5 22 23,oA 25 5 24,oR 9 (.newv [(.int .i64 0),(.int .i64 0),(.int .i64 0),(.str (bs [])),.nilsl] 0),oN (.store 5 (oT 9) (oT 25))]) (.seq (oZ 1 [oM 26 2,oA 27 5 8,oA 28 5 9,oR 29 (.call (oT 26) [(oT 27),(oT 28)] 0),oR 30 (.un .not (oT 29))]) (.cond (oT 30) (.seq (oZ 0 [oR 6 (.mov (.const (.bool false)))]) .ret) .skip))))) (oZ 0 [oJ 31 .add 17 1,oM 17 31]))))))) (.seq (oZ 0 [oR 6 (.mov (.const (.bool true)))]) .ret)))),0⟩
noncomputable def i29:IFn:=by
 refine uFn 0 Tryz.f29 [] ?_ ?h; case h=>conv=>lhs; reduce; simp only [Int.reduceOfNat]
noncomputable def i30:IFn:=by
 refine uFn 0 Tryz.f30 [([],[(3,7)])] ?_ ?h; case h=>conv=>lhs; reduce; simp only [Int.reduceOfNat]
noncomputable def i31:IFn:=by
 refine uFn 0 Tryz.f31 [([],[(1,6),(4,6),(1,9),(4,9)]),([(11,[0])],[(1,6),(4,6),(1,9),(4,9)]),([],[(1,6),(4,6),(1,9),(4,9)])] ?_ ?h; case h=>conv=>lhs; reduce; simp only [Int.reduceOfNat]
noncomputable def i32:IFn:=by
 refine uFn 0 Tryz.f32 [] ?_ ?h; case h=>conv=>lhs; reduce; simp only [Int.reduceOfNat]
noncomputable def i33:IFn:=by
 refine uFn 2 Tryz.f33 [] ?_ ?h; case h=>conv=>lhs; reduce; simp only [Int.reduceOfNat]
noncomputable def i34:IFn:=by
 refine uFn 0 Tryz.f34 [] ?_ ?h; case h=>conv=>lhs; reduce; simp only [Int.reduceOfNat]
noncomputable def i35:IFn:=by
 refine uFn 0 Tryz.f35 [([],[(3,7),(3,11),(7,11),(3,15),(7,15),(11,15)]),([],[(1,3),(1,6),(3,6),(1,8),(3,8),(6,8),(8,11)]),([],[(1,3),(1,6),(3,6),(1,8),(3,8),(6,8),(8,11)])] ?_ ?h; case h=>conv=>lhs; reduce; simp only [Int.reduceOfNat,Int.reduceNegSucc]
noncomputable def i36:IFn:=by
 refine uFn 0 Tryz.f36 [] ?_ ?h; case h=>conv=>lhs; reduce; simp only [Int.reduceOfNat]
noncomputable def i37:IFn:=by
 refine uFn 0 Tryz.f37 [] ?_ ?h; case h=>conv=>lhs; reduce; simp only [Int.reduceOfNat]
noncomputable def i38:IFn:=by
 refine uFn 0 Tryz.f38 [] ?_ ?h; case h=>conv=>lhs; reduce; simp only [Int.reduceOfNat]
noncomputable def i39:IFn:=by
 refine uFn 2 Tryz.f39 [] ?_ ?h; case h=>conv=>lhs; reduce; simp only [Int.reduceOfNat]
noncomputable def i40:IFn:=by
 refine uFn 0 Tryz.f40 [] ?_ ?h; case h=>conv=>lhs; reduce; simp only [Int.reduceOfNat]
noncomputable def i41:IFn:=by
 refine uFn 0 Tryz.f41 [] ?_ ?h; case h=>conv=>lhs; reduce; simp only [Int.reduceOfNat]
def i42:IFn:=⟨12,[(.tmp 2)],(.seq (oZ 1 [oH 1 0 0,oR 2 (.mov (.const (.bool false)))]) (.seq (oZ 1 [oF 3 3 1,oL 4 3,oR 5 (.bin .neq (oT 4) (.const (.str (bs [])))),oM 6 5,oG 7 (.faddr 3 (oT 1)) 6 true,oG 8 (.load false 1 (oT 7)) 6 true,oG 9 (.call (.const (.fn 43 [] [])) [(oT 8)] 0) 6 true,oG 10 (.bin .neq (oT 9) (oI 0)) 6 true,oR 11 (.pick (oT 6) (oT 10) (.const (.bool false))),oM 2 11]) .ret)),0⟩
noncomputable def i43:IFn:=by
 refine uFn 0 Tryz.f43 [] ?_ ?h; case h=>conv=>lhs; reduce; simp only [Int.reduceOfNat]
noncomputable def i44:IFn:=by
 refine uFn 0 Tryz.f44 [] ?_ ?h; case h=>conv=>lhs; reduce; simp only [Int.reduceOfNat]
noncomputable def i45:IFn:=by
 refine uFn 0 Tryz.f45 [] ?_ ?h; case h=>conv=>lhs; reduce; simp only [Int.reduceOfNat]
noncomputable def i46:IFn:=by
 refine uFn 0 Tryz.f46 [] ?_ ?h; case h=>conv=>lhs; reduce; simp only [Int.reduceOfNat]
noncomputable def i47:IFn:=by
 refine uFn 2 Tryz.f47 [] ?_ ?h; case h=>conv=>lhs; reduce; simp only [Int.reduceOfNat]
noncomputable def i48:IFn:=by
 refine uFn 2 Tryz.f48 [] ?_ ?h; case h=>conv=>lhs; reduce; simp only [Int.reduceOfNat]
noncomputable def i49:IFn:=by
 refine uFn 0 Tryz.f49 [] ?_ ?h; case h=>conv=>lhs; reduce; simp only [Int.reduceOfNat]
noncomputable def i50:IFn:=by
 refine uFn 0 Tryz.f50 [([],[(4,8)])] ?_ ?h; case h=>conv=>lhs; reduce; simp only [Int.reduceOfNat]
noncomputable def i51:IFn:=by
 refine uFn 0 Tryz.f51 [] ?_ ?h; case h=>conv=>lhs; reduce; simp only [Int.reduceOfNat]
noncomputable def i52:IFn:=by
 refine uFn 0 Tryz.f52 [] ?_ ?h; case h=>conv=>lhs; reduce; simp only [Int.reduceOfNat]
noncomputable def i53:IFn:=by
 refine uFn 0 Tryz.f53 [] ?_ ?h; case h=>conv=>lhs; reduce; simp only [Int.reduceOfNat]
noncomputable def i54:IFn:=by
 refine uFn 0 Tryz.f54 [([(3,[0]),(4,[0,1])],[(0,2),(1,2)]),([(5,[0]),(6,[0]),(7,[0]),(8,[0,1]),(9,[0,1]),(10,[0,1]),(11,[0,1]),(12,[0,1]),(13,[0,1]),(14,[0,1]),(15,[0,1]),(16,[0,1]),(17,[0,1]),(18,[0,1]),(19,[0,1]),(20,[0,1]),(21,[0,1]),(22,[0,1]),(23,[0,1]),(24,[0,1,2]),(25,[0,1,2]),(26,[0,1,2]),(27,[0,1,2]),(28,[0,1,2]),(29,[0,1,2]),(30,[0,1,2]),(31,[0,1,2]),(32,[0,1,2]),(33,[0,1,2]),(34,[0,1,2]),(35,[0,1,2]),(36,[0,1,2])],[(0,1),(0,3),(1,3),(10,16),(14,16),(26,32),(30,32)])] ?_ ?h; case h=>conv=>lhs; reduce; simp only [Int.reduceOfNat]
noncomputable def i55:IFn:=by
 refine uFn 0 Tryz.f55 [] ?_ ?h; case h=>conv=>lhs; reduce; simp only [Int.reduceOfNat,Int.reduceNegSucc]
noncomputable def i56:IFn:=by
 refine uFn 0 Tryz.f56 [] ?_ ?h; case h=>conv=>lhs; reduce; simp only [Int.reduceOfNat]
noncomputable def i57:IFn:=by
 refine uFn 0 Tryz.f57 [] ?_ ?h; case h=>conv=>lhs; reduce; simp only [Int.reduceOfNat]
noncomputable def i58:IFn:=by
 refine uFn 0 Tryz.f58 [] ?_ ?h; case h=>conv=>lhs; reduce; simp only [Int.reduceOfNat]
noncomputable def i59:IFn:=by
 refine uFn 3 Tryz.f59 [([],[(4,8)])] ?_ ?h; case h=>conv=>lhs; reduce; simp only [Int.reduceOfNat]
noncomputable def i60:IFn:=by
 refine uFn 1 Tryz.f60 [] ?_ ?h; case h=>conv=>lhs; reduce; simp only [Int.reduceOfNat]
noncomputable def i61:IFn:=by
 refine uFn 0 Tryz.f61 [([(3,[0]),(4,[0,1]),(7,[0,1,2]),(8,[0,1,2,3])],[(0,2),(1,2),(0,6),(1,6),(2,6),(3,6),(4,6)])] ?_ ?h; case h=>conv=>lhs; reduce; simp only [Int.reduceOfNat]
noncomputable def i62:IFn:=by
 refine uFn 0 Tryz.f62 [([],[(1,7),(5,7),(1,11),(5,11)])] ?_ ?h; case h=>conv=>lhs; reduce; simp only [Int.reduceOfNat]
noncomputable def i63:IFn:=by
 refine uFn 0 Tryz.f63 [([(9,[0]),(11,[0,1]),(12,[0,1]),(13,[0,1]),(14,[0,1]),(15,[0,1])],[(1,4),(1,7),(4,7),(5,7)])] ?_ ?h; case h=>conv=>lhs; reduce; simp only [Int.reduceOfNat]
noncomputable def i64:IFn:=by
 refine uFn 0 Tryz.f64 [] ?_ ?h; case h=>conv=>lhs; reduce; simp only [Int.reduceOfNat]
noncomputable def i65:IFn:=by
 refine uFn 0 Tryz.f65 [([(6,[0])],[(0,4)]),([(23,[0]),(24,[0]),(25,[0]),(26,[0]),(27,[0]),(28,[0]),(29,[0]),(30,[0]),(31,[0]),(32,[0]),(33,[0]),(34,[0]),(35,[0]),(36,[0]),(37,[0]),(38,[0]),(39,[0]),(40,[0]),(41,[0]),(42,[0]),(43,[0]),(44,[0]),(45,[0]),(46,[0]),(47,[0]),(48,[0]),(49,[0]),(50,[0,1]),(51,[0,1]),(52,[0,1])],[(5,11),(17,21),(31,37),(40,44),(40,48),(44,48)])] ?_ ?h; case h=>conv=>lhs; reduce; simp only [Int.reduceOfNat]
noncomputable def i66:IFn:=by
 refine uFn 0 Tryz.f66 [] ?_ ?h; case h=>conv=>lhs; reduce; simp only [Int.reduceOfNat]
noncomputable def i67:IFn:=by
 refine uFn 0 Tryz.f67 [] ?_ ?h; case h=>conv=>lhs; reduce; simp only [Int.reduceOfNat]
noncomputable def i68:IFn:=by
 refine uFn 0 Tryz.f68 [([],[(3,7)])] ?_ ?h; case h=>conv=>lhs; reduce; simp only [Int.reduceOfNat]
noncomputable def i69:IFn:=by
 refine uFn 0 Tryz.f69 [([],[(3,7)])] ?_ ?h; case h=>conv=>lhs; reduce; simp only [Int.reduceOfNat]
noncomputable def i70:IFn:=by
 refine uFn 0 Tryz.f70 [] ?_ ?h; case h=>conv=>lhs; reduce; simp only [Int.reduceOfNat]
noncomputable def i71:IFn:=by
 refine uFn 0 Tryz.f71 [] ?_ ?h; case h=>conv=>lhs; reduce; simp only [Int.reduceOfNat]
noncomputable def i72:IFn:=by
 refine uFn 0 Tryz.f72 [] ?_ ?h; case h=>conv=>lhs; reduce; simp only [Int.reduceOfNat]
noncomputable def i73:IFn:=by
 refine uFn 2 Tryz.f73 [([(18,[0]),(19,[0]),(20,[0])],[(4,5),(4,11),(5,11),(9,11)])] ?_ ?h; case h=>conv=>lhs; reduce; simp only [Int.reduceOfNat]
noncomputable def i74:IFn:=by
 refine uFn 0 Tryz.f74 [([],[(4,8)])] ?_ ?h; case h=>conv=>lhs; reduce; simp only [Int.reduceOfNat]
def i75:IFn:=⟨45,[(.tmp 2),(.tmp 3)],(.seq (oZ 0 [oR 2 (.mov (.const .nilsl)),oK 3 0]) (.seq (.seq (oZ 0 [oM 6 0,oR 7 (.bin .eql (oT 6) (.const (.str (bs []))))]) (.cond (oT 7) (.seq (oZ 0 [oR 2 (.mov (.const .nilsl)),oK 3 14]) .ret) .skip)) (.seq (.seq (oZ 0 [oM 8 0,oE 9 0 8,oJ 10 .gtr 9 40]) (.cond (oT 10) (.seq (oZ 0 [oR 2 (.mov (.const .nilsl)),oK 3 3]) .ret) .skip)) (.seq (oZ 1 [oM 12 0,oR 13 (.call (.const (.fn 109 [] [])) [(oT 12)] 0),oM 11 13,oX 14 11 0,oX 15 11 1,oM 2 14,oM 3 15]) (.seq (.seq (oZ 0 [oM 16 3,oJ 17 .neq 16 0]) (.cond (oT 17) (.seq (oZ 0 [oM 18 3,oR 2 (.mov (.const .nilsl)),oM 3 18]) .ret) .skip)) (.seq (.seq (oZ 1 [oM 19 0,oR 20 (.indexS (oT 19) (oI 0)),oR 21 (.bin .eql (oT 20) (.const (.int .u8 32))),oM 22 21,oG 23 (.mov (oT 0)) 22 false,oG 24 (.mov (oT 0)) 22 false,oG 25 (.len 0 (oT 24)) 22 false,oG 26 (.bin .sub (oT 25) (oI 1)) 22 false,oG 27 (.indexS (oT 23) (oT 26)) 22 false,oG 28 (.bin .eql (oT 27) (.const (.int .u8 32))) 22 false,oR 29 (.pick (oT 22) (.const (.bool true)) (oT 28)),oM 30 29,oG 31 (.mov (oT 0)) 30 false,oG 32 (.call (.const (.fn 110 [] [])) [(oT 31),(.const (.str (bs [32,32])))] 0) 30 false,oR 33 (.pick (oT 30) (.const (.bool true)) (oT 32))]) (.cond (oT 33) (.seq (oZ 0 [oR 2 (.mov (.const .nilsl)),oK 3 14]) .ret) .skip)) (.seq (.seq (oZ 0 [oM 34 2,oE 35 1 34,oK 36 0]) (.block 0 (.loop (.seq (oZ 0 [oB 37 .lss 36 35]) (.seq (oC 37 0) (.seq (.block 1 (.seq (oZ 0 [oD 38 1 34 36,oL 39 38,oM 5 39]) (.seq (oZ 1 [oM 40 5,oR 41 (.call (.const (.fn 111 [] [])) [(oT 40)] 0),oJ 42 .neq 41 0]) (.cond (oT 42) (.seq (oZ 0 [oM 43 2,oM 2 43,oK 3 0]) .ret) .skip)))) (oZ 0 [oJ 44 .add 36 1,oM 36 44]))))))) (.seq (oZ 0 [oR 2 (.mov (.const .nilsl)),oK 3 14]) .ret)))))))),0⟩
noncomputable def i76:IFn:=by
 refine uFn 0 Tryz.f76 [] ?_ ?h; case h=>conv=>lhs; reduce; simp only [Int.reduceOfNat]
noncomputable def i77:IFn:=by
 refine uFn 0 Tryz.f77 [] ?_ ?h; case h=>conv=>lhs; reduce; simp only [Int.reduceOfNat]
noncomputable def i78:IFn:=by
 refine uFn 0 Tryz.f78 [] ?_ ?h; case h=>conv=>lhs; reduce; simp only [Int.reduceOfNat]
noncomputable def i79:IFn:=by
 refine uFn 2 Tryz.f79 [] ?_ ?h; case h=>conv=>lhs; reduce; simp only [Int.reduceOfNat]
noncomputable def i80:IFn:=by
 refine uFn 2 Tryz.f80 [] ?_ ?h; case h=>conv=>lhs; reduce; simp only [Int.reduceOfNat,Int.reduceNegSucc]
noncomputable def i81:IFn:=by
 refine uFn 0 Tryz.f81 [] ?_ ?h; case h=>conv=>lhs; reduce; simp only [Int.reduceOfNat]
noncomputable def i82:IFn:=by
 refine uFn 0 Tryz.f82 [] ?_ ?h; case h=>conv=>lhs; reduce; simp only [Int.reduceOfNat,Int.reduceNegSucc]
noncomputable def i83:IFn:=by
 refine uFn 0 Tryz.f83 [] ?_ ?h; case h=>conv=>lhs; reduce; simp only [Int.reduceOfNat]
noncomputable def i84:IFn:=by
 refine uFn 1 Tryz.f84 [([],[(3,8)])] ?_ ?h; case h=>conv=>lhs; reduce; simp only [Int.reduceOfNat]
def i85:IFn:=cSort uF
noncomputable def i86:IFn:=by
 refine uFn 0 Tryz.f86 [([(3,[0]),(4,[0,1]),(5,[0,1,2])],[(0,2),(1,2)])] ?_ ?h; case h=>conv=>lhs; reduce; simp only [Int.reduceOfNat]
noncomputable def i87:IFn:=by
 refine uFn 0 Tryz.f87 [] ?_ ?h; case h=>conv=>lhs; reduce; simp only [Int.reduceOfNat,Int.reduceNegSucc]
noncomputable def i88:IFn:=by
 refine uFn 0 Tryz.f88 [] ?_ ?h; case h=>conv=>lhs; reduce; simp only [Int.reduceOfNat]
noncomputable def i89:IFn:=by
 refine uFn 0 Tryz.f89 [] ?_ ?h; case h=>conv=>lhs; reduce; simp only [Int.reduceOfNat]
noncomputable def i90:IFn:=by
 refine uFn 0 Tryz.f90 [([],[(1,7),(5,7),(1,11),(5,11)]),([(23,[0]),(24,[0]),(25,[0]),(26,[0]),(27,[0,1]),(28,[0,1])],[(1,4),(8,14),(12,14),(8,18),(12,18)]),([],[(1,7),(5,7),(1,11),(5,11)])] ?_ ?h; case h=>conv=>lhs; reduce; simp only [Int.reduceOfNat]
noncomputable def i91:IFn:=by
 refine uFn 0 Tryz.f91 [([],[(1,6),(4,6),(1,10),(4,10),(6,10),(8,10),(1,13),(4,13),(6,13),(8,13),(1,15),(4,15),(6,15),(8,15),(10,15),(13,15),(1,18),(4,18),(6,18),(8,18),(10,19),(13,19),(15,19),(18,19)])] ?_ ?h; case h=>conv=>lhs; reduce; simp only [Int.reduceOfNat]
noncomputable def i92:IFn:=by
 refine uFn 0 Tryz.f92 [] ?_ ?h; case h=>conv=>lhs; reduce; simp only [Int.reduceOfNat]
noncomputable def i93:IFn:=by
 refine uFn 0 Tryz.f93 [] ?_ ?h; case h=>conv=>lhs; reduce; simp only [Int.reduceOfNat]
noncomputable def i94:IFn:=by
 refine uFn 0 Tryz.f94 [([],[(1,3),(1,6),(1,7)])] ?_ ?h; case h=>conv=>lhs; reduce; simp only [Int.reduceOfNat]
noncomputable def i95:IFn:=by
 refine uFn 0 Tryz.f95 [] ?_ ?h; case h=>conv=>lhs; reduce; simp only [Int.reduceOfNat]
noncomputable def i96:IFn:=by
 refine uFn 1 Tryz.f96 [] ?_ ?h; case h=>conv=>lhs; reduce; simp only [Int.reduceOfNat]
noncomputable def i97:IFn:=by
 refine uFn 0 Tryz.f97 [] ?_ ?h; case h=>conv=>lhs; reduce; simp only [Int.reduceOfNat]
noncomputable def i98:IFn:=by
 refine uFn 0 Tryz.f98 [] ?_ ?h; case h=>conv=>lhs; reduce; simp only [Int.reduceOfNat,Int.reduceNegSucc]
noncomputable def i99:IFn:=by
 refine uFn 0 Tryz.f99 [] ?_ ?h; case h=>conv=>lhs; reduce; simp only [Int.reduceOfNat]
noncomputable def i100:IFn:=by
 refine uFn 0 Tryz.f100 [([(7,[0]),(8,[0]),(9,[0]),(10,[0]),(11,[0])],[(0,2),(0,5)]),([(22,[0])],[(2,8),(5,8),(2,13),(5,13),(8,13),(2,18),(5,18),(8,18),(13,18)])] ?_ ?h; case h=>conv=>lhs; reduce; simp only [Int.reduceOfNat]
noncomputable def i101:IFn:=by
 refine uFn 0 Tryz.f101 [] ?_ ?h; case h=>conv=>lhs; reduce; simp only [Int.reduceOfNat]
noncomputable def i102:IFn:=by
 refine uFn 0 Tryz.f102 [] ?_ ?h; case h=>conv=>lhs; reduce; simp only [Int.reduceOfNat]
noncomputable def i103:IFn:=by
 refine uFn 0 Tryz.f103 [] ?_ ?h; case h=>conv=>lhs; reduce; simp only [Int.reduceOfNat]
noncomputable def i104:IFn:=by
 refine uFn 0 Tryz.f104 [([],[(3,7)])] ?_ ?h; case h=>conv=>lhs; reduce; simp only [Int.reduceOfNat]
noncomputable def i105:IFn:=by
 refine uFn 0 Tryz.f105 [([(6,[0])],[(0,5)])] ?_ ?h; case h=>conv=>lhs; reduce; simp only [Int.reduceOfNat]
noncomputable def i106:IFn:=by
 refine uFn 0 Tryz.f106 [] ?_ ?h; case h=>conv=>lhs; reduce; simp only [Int.reduceOfNat]
noncomputable def i107:IFn:=by
 refine uFn 0 Tryz.f107 [([],[(3,6)]),([(11,[0]),(12,[0]),(13,[0])],[(6,8)])] ?_ ?h; case h=>conv=>lhs; reduce; simp only [Int.reduceOfNat]
noncomputable def i108:IFn:=by
 refine uFn 0 Tryz.f108 [([(6,[0])],[(0,2),(0,4)]),([],[(2,4),(2,5)])] ?_ ?h; case h=>conv=>lhs; reduce; simp only [Int.reduceOfNat]
noncomputable def i110:IFn:=by
 refine uFn 0 Tryz.f110 [] ?_ ?h; case h=>conv=>lhs; reduce; simp only [Int.reduceOfNat]
noncomputable def i112:IFn:=by
 refine uFn 0 Tryz.f112 [] ?_ ?h; case h=>conv=>lhs; reduce; simp only [Int.reduceOfNat,Int.reduceNegSucc]
noncomputable def i113:IFn:=by
 refine uFn 0 Tryz.f113 [] ?_ ?h; case h=>conv=>lhs; reduce; simp only [Int.reduceOfNat,Int.reduceNegSucc]
def i114:IFn:=cPdq uF
noncomputable def i115:IFn:=by
 refine uFn 0 Tryz.f115 [] ?_ ?h; case h=>conv=>lhs; reduce; simp only [Int.reduceOfNat]
noncomputable def i116:IFn:=by
 refine uFn 0 Tryz.f116 [] ?_ ?h; case h=>conv=>lhs; reduce; simp only [Int.reduceOfNat]
noncomputable def i117:IFn:=by
 refine uFn 0 Tryz.f117 [([(7,[0]),(8,[0,1]),(9,[0,1]),(10,[0,1]),(11,[0,1]),(12,[0,1]),(13,[0,1]),(14,[0,1]),(15,[0,1]),(16,[0,1]),(17,[0,1]),(18,[0,1,2]),(19,[0,1,2,3]),(20,[0,1,2,3]),(21,[0,1,2,3]),(22,[0,1,2,3])],[(0,1),(0,2),(1,2),(0,4),(1,4),(2,4),(3,4),(0,5),(1,5),(2,5),(3,5),(4,5),(0,6),(1,6),(2,6),(3,6),(4,6),(5,6),(11,12),(11,13),(12,13),(11,15),(12,15),(13,15),(14,15),(11,16),(12,16),(13,16),(14,16),(15,16),(11,17),(12,17),(13,17),(14,17),(15,17),(16,17)])] ?_ ?h; case h=>conv=>lhs; reduce; simp only [Int.reduceOfNat]
noncomputable def i118:IFn:=by
 refine uFn 0 Tryz.f118 [] ?_ ?h; case h=>conv=>lhs; reduce; simp only [Int.reduceOfNat,Int.reduceNegSucc]
noncomputable def i119:IFn:=by
 refine uFn 0 Tryz.f119 [] ?_ ?h; case h=>conv=>lhs; reduce; simp only [Int.reduceOfNat]
noncomputable def i120:IFn:=by
 refine uFn 0 Tryz.f120 [] ?_ ?h; case h=>conv=>lhs; reduce; simp only [Int.reduceOfNat]
noncomputable def i121:IFn:=by
 refine uFn 0 Tryz.f121 [([(9,[0]),(10,[0,1]),(11,[0,1])],[(0,1),(0,2),(1,2),(0,3),(1,3),(2,3),(0,5),(1,5),(2,5),(3,5),(4,5),(0,6),(1,6),(2,6),(3,6),(4,6),(5,6),(0,7),(1,7),(2,7),(3,7),(4,7),(5,7),(6,7),(0,8),(1,8),(2,8),(3,8),(4,8),(5,8),(6,8),(7,8)])] ?_ ?h; case h=>conv=>lhs; reduce; simp only [Int.reduceOfNat]
noncomputable def i122:IFn:=by
 refine uFn 0 Tryz.f122 [] ?_ ?h; case h=>conv=>lhs; reduce; simp only [Int.reduceOfNat]
noncomputable def i123:IFn:=by
 refine uFn 0 Tryz.f123 [([],[(2,5)]),([],[(2,6),(2,9)])] ?_ ?h; case h=>conv=>lhs; reduce; simp only [Int.reduceOfNat]
noncomputable def i124:IFn:=by
 refine uFn 0 Tryz.f124 [] ?_ ?h; case h=>conv=>lhs; reduce; simp only [Int.reduceOfNat]
noncomputable def i125:IFn:=by
 refine uFn 2 Tryz.f125 [] ?_ ?h; case h=>conv=>lhs; reduce; simp only [Int.reduceOfNat]
noncomputable def i126:IFn:=by
 refine uFn 2 Tryz.f126 [] ?_ ?h; case h=>conv=>lhs; reduce; simp only [Int.reduceOfNat]
noncomputable def i127:IFn:=by
 refine uFn 0 Tryz.f127 [([],[(5,11),(5,18),(11,18),(5,23),(11,23),(18,23)])] ?_ ?h; case h=>conv=>lhs; reduce; simp only [Int.reduceOfNat]
noncomputable def i128:IFn:=by
 refine uFn 0 Tryz.f128 [([(24,[0])],[(7,12),(21,22)])] ?_ ?h; case h=>conv=>lhs; reduce; simp only [Int.reduceOfNat]
noncomputable def i129:IFn:=by
 refine uFn 0 Tryz.f129 [] ?_ ?h; case h=>conv=>lhs; reduce; simp only [Int.reduceOfNat]
noncomputable def i130:IFn:=by
 refine uFn 0 Tryz.f130 [] ?_ ?h; case h=>conv=>lhs; reduce; simp only [Int.reduceOfNat]
noncomputable def i131:IFn:=by
 refine uFn 0 Tryz.f131 [] ?_ ?h; case h=>conv=>lhs; reduce; simp only [Int.reduceOfNat]
noncomputable def i132:IFn:=by
 refine uFn 0 Tryz.f132 [] ?_ ?h; case h=>conv=>lhs; reduce; simp only [Int.reduceOfNat]
def i133:IFn:=cIns uF
def i134:IFn:=cHeap uF
def i135:IFn:=cBrk uF
def i136:IFn:=cPiv uF
def i137:IFn:=cRev uF
def i138:IFn:=cPart uF
def i139:IFn:=cParE uF
def i140:IFn:=cPar uF
def i141:IFn:=⟨19,[(.tmp 2)],(.seq (oZ 0 [oK 2 0]) (.seq (.seq (oZ 0 [oM 3 0,oR 4 (.bin .geq (oT 3) (.const (.int .u32 65536)))]) (.cond (oT 4) (.seq (oZ 0 [oM 5 0,oR 6 (.bin .shr (oT 5) (.const (.int .u64 16))),oM 0 6]) (oZ 0 [oK 2 16])) .skip)) (.seq (.seq (oZ 0 [oM 7 0,oR 8 (.bin .geq (oT 7) (.const (.int .u32 256)))]) (.cond (oT 8) (.seq (oZ 0 [oM 9 0,oR 10 (.bin .shr (oT 9) (.const (.int .u64 8))),oM 0 10]) (oZ 0 [oM 11 2,oJ 12 .add 11 8,oM 2 12])) .skip)) (.seq (oZ 0 [oM 13 2,oM 14 0,oR 15 (.conv .u8 (oT 14)),oR 16 (.indexS (.const (.str (bs [0,1,2,2,3,3,3,3,4,4,4,4,4,4,4,4,5,5,5,5,5,5,5,5,5,5,5,5,5,5,5,5,6,6,6,6,6,6,6,6,6,6,6,6,6,6,6,6,6,6,6,6,6,6,6,6,6,6,6,6,6,6,6,6,7,7,7,7,7,7,7,7,7,7,7,7,7,7,7,7,7,7,7,7,7,7,7,7,7,7,7,7,7,7,7,7,7,7,7,7,7,7,7,7,7,7,7,7,7,7,7,7,7,7,7,7,7,7,7,7,7,7,7,7,7,7,7,7,8,8,8,8,8,8,8,8,8,8,8,8,8,8,8,8,8,8,8,8,8,8,8,8,8,8,8,8,8,8,8,8,8,8,8,8,8,8,8,8,8,8,8,8,8,8,8,8,8,8,8,8,8,8,8,8,8,8,8,8,8,8,8,8,8,8,8,8,8,8,8,8,8,8,8,8,8,8,8,8,8,8,8,8,8,8,8,8,8,8,8,8,8,8,8,8,8,8,8,8,8,8,8,8,8,8,8,8,8,8,8,8,8,8,8,8,8,8,8,8,8,8,8,8,8,8,8,8]))) (oT 15)),oR 17 (.conv .i64 (oT 16)),oB 18 .add 13 17,oM 2 18]) .ret)))),0⟩
def i142:IFn:=⟨25,[(.tmp 2)],(.seq (oZ 0 [oK 2 0]) (.seq (.seq (oZ 0 [oM 3 0,oR 4 (.bin .geq (oT 3) (.const (.int .u64 4294967296)))]) (.cond (oT 4) (.seq (oZ 0 [oM 5 0,oR 6 (.bin .shr (oT 5) (.const (.int .u64 32))),oM 0 6]) (oZ 0 [oK 2 32])) .skip)) (.seq (.seq (oZ 0 [oM 7 0,oR 8 (.bin .geq (oT 7) (.const (.int .u64 65536)))]) (.cond (oT 8) (.seq (oZ 0 [oM 9 0,oR 10 (.bin .shr (oT 9) (.const (.int .u64 16))),oM 0 10]) (oZ 0 [oM 11 2,oJ 12 .add 11 16,oM 2 12])) .skip)) (.seq (.seq (oZ 0 [oM 13 0,oR 14 (.bin .geq (oT 13) (.const (.int .u64 256)))]) (.cond (oT 14) (.seq (oZ 0 [oM 15 0,oR 16 (.bin .shr (oT 15) (.const (.int .u64 8))),oM 0 16]) (oZ 0 [oM 17 2,oJ 18 .add 17 8,oM 2 18])) .skip)) (.seq (oZ 0 [oM 19 2,oM 20 0,oR 21 (.conv .u8 (oT 20)),oR 22 (.indexS (.const (.str (bs [0,1,2,2,3,3,3,3,4,4,4,4,4,4,4,4,5,5,5,5,5,5,5,5,5,5,5,5,5,5,5,5,6,6,6,6,6,6,6,6,6,6,6,6,6,6,6,6,6,6,6,6,6,6,6,6,6,6,6,6,6,6,6,6,7,7,7,7,7,7,7,7,7,7,7,7,7,7,7,7,7,7,7,7,7,7,7,7,7,7,7,7,7,7,7,7,7,7,7,7,7,7,7,7,7,7,7,7,7,7,7,7,7,7,7,7,7,7,7,7,7,7,7,7,7,7,7,7,8,8,8,8,8,8,8,8,8,8,8,8,8,8,8,8,8,8,8,8,8,8,8,8,8,8,8,8,8,8,8,8,8,8,8,8,8,8,8,8,8,8,8,8,8,8,8,8,8,8,8,8,8,8,8,8,8,8,8,8,8,8,8,8,8,8,8,8,8,8,8,8,8,8,8,8,8,8,8,8,8,8,8,8,8,8,8,8,8,8,8,8,8,8,8,8,8,8,8,8,8,8,8,8,8,8,8,8,8,8,8,8,8,8,8,8,8,8,8,8,8,8,8,8,8,8,8,8]))) (oT 21)),oR 23 (.conv .i64 (oT 22)),oB 24 .add 19 23,oM 2 24]) .ret))))),0⟩
noncomputable def i143:IFn:=by
 refine uFn 0 Tryz.f143 [] ?_ ?h; case h=>conv=>lhs; reduce; simp only [Int.reduceOfNat,Int.reduceNegSucc]
noncomputable def i144:IFn:=by
 refine uFn 0 Tryz.f144 [([(4,[0,1]),(5,[0,1])],[(0,1),(0,2),(1,2),(0,3),(1,3),(2,3),(1,4)])] ?_ ?h; case h=>conv=>lhs; reduce; simp only [Int.reduceOfNat]
noncomputable def i145:IFn:=by
 refine uFn 0 Tryz.f145 [] ?_ ?h; case h=>conv=>lhs; reduce; simp only [Int.reduceOfNat,Int.reduceNegSucc]
noncomputable def i146:IFn:=by
 refine uFn 0 Tryz.f146 [] ?_ ?h; case h=>conv=>lhs; reduce; simp only [Int.reduceOfNat]
noncomputable def i147:IFn:=by
 refine uFn 0 Tryz.f147 [] ?_ ?h; case h=>conv=>lhs; reduce; simp only [Int.reduceOfNat]
noncomputable def i148:IFn:=by
 refine uFn 0 Tryz.f148 [] ?_ ?h; case h=>conv=>lhs; reduce; simp only [Int.reduceOfNat]
noncomputable def i149:IFn:=by
 refine uFn 2 Tryz.f149 [] ?_ ?h; case h=>conv=>lhs; reduce; simp only [Int.reduceOfNat]
def i150:IFn:=cSort qF
noncomputable def i151:IFn:=by
 refine uFn 0 Tryz.f151 [] ?_ ?h; case h=>conv=>lhs; reduce; simp only [Int.reduceOfNat,Int.reduceNegSucc]
noncomputable def i152:IFn:=by
 refine uFn 0 Tryz.f152 [([(5,[0]),(6,[0,1])],[(0,1),(0,3),(1,3),(2,3),(0,4),(1,4),(2,4),(3,4)])] ?_ ?h; case h=>conv=>lhs; reduce; simp only [Int.reduceOfNat]
noncomputable def i153:IFn:=by
 refine uFn 2 Tryz.f153 [([(13,[0]),(14,[0])],[(7,11)])] ?_ ?h; case h=>conv=>lhs; reduce; simp only [Int.reduceOfNat]
noncomputable def i154:IFn:=by
 refine uFn 0 Tryz.f154 [] ?_ ?h; case h=>conv=>lhs; reduce; simp only [Int.reduceOfNat,Int.reduceNegSucc]
noncomputable def i155:IFn:=by
 refine uFn 0 Tryz.f155 [] ?_ ?h; case h=>conv=>lhs; reduce; simp only [Int.reduceOfNat]
def i157:IFn:=cSift uF
noncomputable def i158:IFn:=by
 refine uFn 0 Tryz.f158 [] ?_ ?h; case h=>conv=>lhs; reduce; simp only [Int.reduceOfNat]
noncomputable def i159:IFn:=by
 refine uFn 2 Tryz.f159 [([],[(2,5)]),([],[(2,5)]),([],[(2,5)])] ?_ ?h; case h=>conv=>lhs; reduce; simp only [Int.reduceOfNat]
def i160:IFn:=cMedA uF
def i161:IFn:=cMed uF
noncomputable def i162:IFn:=by
 refine uFn 0 Tryz.f162 [] ?_ ?h; case h=>conv=>lhs; reduce; simp only [Int.reduceOfNat]
noncomputable def i163:IFn:=by
 refine uFn 0 Tryz.f163 [] ?_ ?h; case h=>conv=>lhs; reduce; simp only [Int.reduceOfNat]
noncomputable def i164:IFn:=by
 refine uFn 0 Tryz.f164 [] ?_ ?h; case h=>conv=>lhs; reduce; simp only [Int.reduceOfNat]
def i165:IFn:=cPdq qF
noncomputable def i166:IFn:=by
 refine uFn 0 Tryz.f166 [] ?_ ?h; case h=>conv=>lhs; reduce; simp only [Int.reduceOfNat]
noncomputable def i167:IFn:=by
 refine uFn 2 Tryz.f167 [([(14,[0])],[(7,12)]),([],[(9,13)])] ?_ ?h; case h=>conv=>lhs; reduce; simp only [Int.reduceOfNat]
noncomputable def i168:IFn:=by
 refine uFn 2 Tryz.f168 [([],[(11,15)])] ?_ ?h; case h=>conv=>lhs; reduce; simp only [Int.reduceOfNat]
noncomputable def i169:IFn:=by
 refine uFn 2 Tryz.f169 [([],[(11,15)])] ?_ ?h; case h=>conv=>lhs; reduce; simp only [Int.reduceOfNat]
noncomputable def i170:IFn:=by
 refine uFn 2 Tryz.f170 [] ?_ ?h; case h=>conv=>lhs; reduce; simp only [Int.reduceOfNat]
noncomputable def i171:IFn:=by
 refine uFn 2 Tryz.f171 [([],[(7,11)])] ?_ ?h; case h=>conv=>lhs; reduce; simp only [Int.reduceOfNat]
noncomputable def i172:IFn:=by
 refine uFn 2 Tryz.f172 [([(14,[0]),(15,[0])],[(7,12)]),([],[(9,13)]),([(10,[0])],[(3,8)]),([],[(9,13)]),([(10,[0])],[(3,8)]),([],[(9,13)])] ?_ ?h; case h=>conv=>lhs; reduce; simp only [Int.reduceOfNat]
noncomputable def i173:IFn:=by
 refine uFn 0 Tryz.f173 [] ?_ ?h; case h=>conv=>lhs; reduce; simp only [Int.reduceOfNat]
noncomputable def i174:IFn:=by
 refine uFn 2 Tryz.f174 [([],[(7,11)]),([(13,[0]),(14,[0])],[(7,11)]),([(13,[0])],[(7,11)]),([],[(7,11)])] ?_ ?h; case h=>conv=>lhs; reduce; simp only [Int.reduceOfNat]
noncomputable def i175:IFn:=by
 refine uFn 2 Tryz.f175 [([],[(7,11)]),([(13,[0])],[(7,11)]),([(13,[0]),(14,[0])],[(7,11)]),([],[(7,11)]),([],[(7,11)]),([(13,[0])],[(7,11)]),([(13,[0]),(14,[0])],[(7,11)]),([],[(7,11)]),([],[(7,11)])] ?_ ?h; case h=>conv=>lhs; reduce; simp only [Int.reduceOfNat]
noncomputable def i176:IFn:=by
 refine uFn 2 Tryz.f176 [([],[(5,9)])] ?_ ?h; case h=>conv=>lhs; reduce; simp only [Int.reduceOfNat]
noncomputable def i177:IFn:=by
 refine uFn 2 Tryz.f177 [] ?_ ?h; case h=>conv=>lhs; reduce; simp only [Int.reduceOfNat]
def i182:IFn:=cOrd2 uF
def i183:IFn:=cIns qF
def i184:IFn:=cHeap qF
def i185:IFn:=cBrk qF
def i186:IFn:=cPiv qF
def i187:IFn:=cRev qF
def i188:IFn:=cPart qF
def i189:IFn:=cParE qF
def i190:IFn:=cPar qF
noncomputable def i191:IFn:=by
 refine uFn 2 Tryz.f191 [([(19,[0])],[(10,17)]),([(13,[0])],[(5,11)]),([],[(13,19)])] ?_ ?h; case h=>conv=>lhs; reduce; simp only [Int.reduceOfNat]
noncomputable def i192:IFn:=by
 refine uFn 2 Tryz.f192 [] ?_ ?h; case h=>conv=>lhs; reduce; simp only [Int.reduceOfNat]
noncomputable def i193:IFn:=by
 refine uFn 2 Tryz.f193 [] ?_ ?h; case h=>conv=>lhs; reduce; simp only [Int.reduceOfNat]
def i196:IFn:=cSift qF
def i197:IFn:=cMedA qF
def i198:IFn:=cMed qF
noncomputable def i199:IFn:=by
 refine uFn 2 Tryz.f199 [([],[(3,7)])] ?_ ?h; case h=>conv=>lhs; reduce; simp only [Int.reduceOfNat]
def i200:IFn:=cOrd2 qF
inductive FT where
 | nil
 | one (f:FuncId) (i:IFn)
 | two (k:FuncId) (l r:FT)
noncomputable def FT.get (t:FT):FuncId->Option IFn:=FT.rec (motive:=fun _=>FuncId->Option IFn) (fun _=>none) (fun g i f=>bif Nat.beq f g then some i else none) (fun k _ _ a b f=>bif Nat.blt f k then a f else b f) t
noncomputable def FT.all (t:FT):List (FuncId × IFn):=FT.rec (motive:=fun _=>List (FuncId × IFn)) [] (fun g i=>[(g,i)]) (fun _ _ _ a b=>a++b) t
theorem FT.mem {f:FuncId} {i:IFn}:∀ {t:FT},t.get f=some i->(f,i)∈t.all
 | .nil,h=>by cases h
 | .one g j,h=>by
  have h2:(bif Nat.beq f g then some j else none)=some i:=h
  clear h
  cases hc:Nat.beq f g
  ·rw [hc] at h2; cases h2
  ·rw [hc] at h2
   rw [Nat.eq_of_beq_eq_true hc,← zdj (show some j=some i from h2)]
   exact zeb ..
 | .two k l r,h=>by
  have h:(bif Nat.blt f k then l.get f else r.get f)=some i:=h
  have e:(FT.two k l r).all=l.all++r.all:=rfl
  rw [e]
  cases hc:Nat.blt f k
  ·rw [hc] at h; exact List.mem_append_right _ (FT.mem h)
  ·rw [hc] at h; exact List.mem_append_left _ (FT.mem h)
noncomputable def tab0:FT:=.two 26 (.two 14 (.two 8 (.two 5 (.two 4 (.one 3 i3) (.one 4 i4)) (.two 6 (.one 5 i5) (.two 7 (.one 6 i6) (.one 7 i7)))) (.two 11 (.two 9 (.one 8 i8) (.two 10 (.one 9 i9) (.one 10 i10))) (.two 12 (.one 11 i11) (.two 13 (.one 12 i12) (.one 13 i13))))) (.two 20 (.two 17 (.two 15 (.one 14 i14) (.two 16 (.one 15 i15) (.one 16 i16))) (.two 18 (.one 17 i17) (.two 19 (.one 18 i18) (.one 19 i19)))) (.two 23 (.two 21 (.one 20 i20) (.two 22 (.one 21 i21) (.one 22 i22))) (.two 24 (.one 23 i23) (.two 25 (.one 24 i24) (.one 25 i25)))))) (.two 38 (.two 32 (.two 29 (.two 27 (.one 26 i26) (.two 28 (.one 27 i27) (.one 28 i28))) (.two 30 (.one 29 i29) (.two 31 (.one 30 i30) (.one 31 i31)))) (.two 35 (.two 33 (.one 32 i32) (.two 34 (.one 33 i33) (.one 34 i34))) (.two 36 (.one 35 i35) (.two 37 (.one 36 i36) (.one 37 i37))))) (.two 44 (.two 41 (.two 39 (.one 38 i38) (.two 40 (.one 39 i39) (.one 40 i40))) (.two 42 (.one 41 i41) (.two 43 (.one 42 i42) (.one 43 i43)))) (.two 47 (.two 45 (.one 44 i44) (.two 46 (.one 45 i45) (.one 46 i46))) (.two 48 (.one 47 i47) (.two 49 (.one 48 i48) (.one 49 i49))))))
noncomputable def tab1:FT:=.two 73 (.two 61 (.two 55 (.two 52 (.two 51 (.one 50 i50) (.one 51 i51)) (.two 53 (.one 52 i52) (.two 54 (.one 53 i53) (.one 54 i54)))) (.two 58 (.two 56 (.one 55 i55) (.two 57 (.one 56 i56) (.one 57 i57))) (.two 59 (.one 58 i58) (.two 60 (.one 59 i59) (.one 60 i60))))) (.two 67 (.two 64 (.two 62 (.one 61 i61) (.two 63 (.one 62 i62) (.one 63 i63))) (.two 65 (.one 64 i64) (.two 66 (.one 65 i65) (.one 66 i66)))) (.two 70 (.two 68 (.one 67 i67) (.two 69 (.one 68 i68) (.one 69 i69))) (.two 71 (.one 70 i70) (.two 72 (.one 71 i71) (.one 72 i72)))))) (.two 85 (.two 79 (.two 76 (.two 74 (.one 73 i73) (.two 75 (.one 74 i74) (.one 75 i75))) (.two 77 (.one 76 i76) (.two 78 (.one 77 i77) (.one 78 i78)))) (.two 82 (.two 80 (.one 79 i79) (.two 81 (.one 80 i80) (.one 81 i81))) (.two 83 (.one 82 i82) (.two 84 (.one 83 i83) (.one 84 i84))))) (.two 91 (.two 88 (.two 86 (.one 85 i85) (.two 87 (.one 86 i86) (.one 87 i87))) (.two 89 (.one 88 i88) (.two 90 (.one 89 i89) (.one 90 i90)))) (.two 94 (.two 92 (.one 91 i91) (.two 93 (.one 92 i92) (.one 93 i93))) (.two 95 (.one 94 i94) (.two 96 (.one 95 i95) (.one 96 i96))))))
noncomputable def tab2:FT:=.two 122 (.two 108 (.two 102 (.two 99 (.two 98 (.one 97 i97) (.one 98 i98)) (.two 100 (.one 99 i99) (.two 101 (.one 100 i100) (.one 101 i101)))) (.two 105 (.two 103 (.one 102 i102) (.two 104 (.one 103 i103) (.one 104 i104))) (.two 106 (.one 105 i105) (.two 107 (.one 106 i106) (.one 107 i107))))) (.two 116 (.two 113 (.two 110 (.one 108 i108) (.two 112 (.one 110 i110) (.one 112 i112))) (.two 114 (.one 113 i113) (.two 115 (.one 114 i114) (.one 115 i115)))) (.two 119 (.two 117 (.one 116 i116) (.two 118 (.one 117 i117) (.one 118 i118))) (.two 120 (.one 119 i119) (.two 121 (.one 120 i120) (.one 121 i121)))))) (.two 134 (.two 128 (.two 125 (.two 123 (.one 122 i122) (.two 124 (.one 123 i123) (.one 124 i124))) (.two 126 (.one 125 i125) (.two 127 (.one 126 i126) (.one 127 i127)))) (.two 131 (.two 129 (.one 128 i128) (.two 130 (.one 129 i129) (.one 130 i130))) (.two 132 (.one 131 i131) (.two 133 (.one 132 i132) (.one 133 i133))))) (.two 140 (.two 137 (.two 135 (.one 134 i134) (.two 136 (.one 135 i135) (.one 136 i136))) (.two 138 (.one 137 i137) (.two 139 (.one 138 i138) (.one 139 i139)))) (.two 143 (.two 141 (.one 140 i140) (.two 142 (.one 141 i141) (.one 142 i142))) (.two 144 (.one 143 i143) (.two 145 (.one 144 i144) (.one 145 i145))))))
noncomputable def tab3:FT:=.two 171 (.two 159 (.two 152 (.two 149 (.two 147 (.one 146 i146) (.two 148 (.one 147 i147) (.one 148 i148))) (.two 150 (.one 149 i149) (.two 151 (.one 150 i150) (.one 151 i151)))) (.two 155 (.two 153 (.one 152 i152) (.two 154 (.one 153 i153) (.one 154 i154))) (.two 157 (.one 155 i155) (.two 158 (.one 157 i157) (.one 158 i158))))) (.two 165 (.two 162 (.two 160 (.one 159 i159) (.two 161 (.one 160 i160) (.one 161 i161))) (.two 163 (.one 162 i162) (.two 164 (.one 163 i163) (.one 164 i164)))) (.two 168 (.two 166 (.one 165 i165) (.two 167 (.one 166 i166) (.one 167 i167))) (.two 169 (.one 168 i168) (.two 170 (.one 169 i169) (.one 170 i170)))))) (.two 187 (.two 177 (.two 174 (.two 172 (.one 171 i171) (.two 173 (.one 172 i172) (.one 173 i173))) (.two 175 (.one 174 i174) (.two 176 (.one 175 i175) (.one 176 i176)))) (.two 184 (.two 182 (.one 177 i177) (.two 183 (.one 182 i182) (.one 183 i183))) (.two 185 (.one 184 i184) (.two 186 (.one 185 i185) (.one 186 i186))))) (.two 193 (.two 190 (.two 188 (.one 187 i187) (.two 189 (.one 188 i188) (.one 189 i189))) (.two 191 (.one 190 i190) (.two 192 (.one 191 i191) (.one 192 i192)))) (.two 198 (.two 196 (.one 193 i193) (.two 197 (.one 196 i196) (.one 197 i197))) (.two 199 (.one 198 i198) (.two 200 (.one 199 i199) (.one 200 i200))))))
noncomputable def tabT:FT:=.two 97 (.two 50 tab0 tab1) (.two 146 tab2 tab3)
noncomputable def Ftab (f:FuncId):Option IFn:=tabT.get f
end
end Go.Proofs.YtelocmclpfincaaGreatDoor
end
