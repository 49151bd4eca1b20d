/-
  A part of the proof: the law in the model.
-/
import Derived.Lib.TrimUEq
import Derived.Laws.IdiomStrings
import Derived.Deep.RegionHeld3
import Derived.RangeFuncNested
import Derived.RangeFuncBound
import Derived.RangeFuncCalls
import Derived.RangeFuncLeaves
import Derived.RangeFuncFrom
import Derived.Shelf.Abstract
import Derived.Shelf.RegionOpen
import Derived.OwnWalkIn
import Derived.TacticsInMore
import Derived.LoopNIn
import Derived.LoopIn
import Derived.Laws.EntriesVeiled
import Derived.Deep.DeepCutAuto
import Derived.RegionTactic
import Derived.Deep.RegionWith
import Derived.Lib.AppendZerosOnto
import Derived.Lib.SliceRun
import Derived.Lib.Walk
import Derived.Laws.AppendOwnNone
import Derived.Lib.RowBridge
import Derived.Lib.IndexMore
import Derived.Lib.Small
import Derived.WalkMore
import Derived.Shelf.SlSortCmp.NoneTotal
import Derived.Shelf.Slices.In.SortNone
import Derived.Shelf.Sort.Plain
import Derived.Ground.SlsfProg
import Derived.Ground.NamesProg
import Derived.Test.YtdacpmgnhkmnkaaGreatDoorProg
import Derived.Tactics
import Derived.Test.YtdacpmgnhkmnkaaGreatDoorPDa
import Derived.Test.YtdacpmgnhkmnkaaGreatDoorPDb
import Derived.Test.YtdacpmgnhkmnkaaGreatDoorPDc
import Derived.Test.YtdacpmgnhkmnkaaGreatDoorPDd
import Derived.Test.YtdacpmgnhkmnkaaGreatDoorPDe
import Derived.Test.YtdacpmgnhkmnkaaGreatDoorPDf
set_option linter.unusedVariables false
set_option linter.unusedSimpArgs false
set_option linter.unusedSectionVars false
set_option linter.defProp false
set_option maxRecDepth 1000000
set_option maxHeartbeats 3200000
open Nat renaming reduceLT → Xa, reduceAdd → Xb, reduceMul → Xc, reduceLeDiff → Xd, reduceEqDiff → Xe
open Go.Proofs.Tryz
noncomputable section
namespace Go.Proofs.YtdacpmgnhkmnkaaGreatDoor
open Go.RowKit
set_option maxHeartbeats 1000000 in
theorem Zi(r:Int)(w:World) :
  Calls Tryz.prog 174 #[.int .i64 r] w fun e w'=>e=.returned (.int .i64 (Gl.script r))/\w=w':=by
 go_enter func174,ntmps174
 go_wp2
 all_goals go_ret
 all_goals exact⟨yD (by unfold Gl.script;first|omega|(simp at *;omega)),rfl⟩
theorem idx(k:Nat)(hk:k<13)(w:World):(Instr.index 160 (.agg Gl.tab) (.int .i64 (k:Int))).run Tryz.prog w=.ok (.agg #[.int .i32 (Gl.lo k),.int .i32 (Gl.hi k),.int .i64 (Gl.sc k)]) w:=by obtain rfl|rfl|rfl|rfl|rfl|rfl|rfl|rfl|rfl|rfl|rfl|rfl|rfl:k=0∨k=1∨k=2∨k=3∨k=4∨k=5∨k=6∨k=7∨k=8∨k=9∨k=10∨k=11∨k=12:=Ω;all_goals kernel_rfl
theorem ace:(Tryz.prog.info? 160).map (·.size)=some Gl.tab.size:=by kernel_rfl
set_option maxHeartbeats 1000000 in
theorem Z2(r:Int)(w:World)(ht:Gl.Tab w) :
  Calls Tryz.prog 79 #[.int .i64 r] w fun e w'=>e=.returned (.int .i64 (Gl.script r))/\Below w.heap.size w w':=by
 obtain⟨t,fr,hg⟩:=ht
 by_cases h0:r<0
 ·go_enter func79,ntmps79
  go_wp2
  go_ret
  exact⟨yD (by unfold Gl.script;omega),Below.refl _ _⟩
 by_cases h1:1114111<r
 ·go_enter func79,ntmps79
  go_wp2
  go_ret
  exact⟨yD (by unfold Gl.script;omega),Below.refl _ _⟩
 go_enter func79,ntmps79
 go_wp2_with (refine wpList_load_row rfl 160 _ rfl 0 rfl t _ fr _ hg underlying160 rfl ace ?_)
 go_loopw [15] (fun i wr=>∃ k:Nat,k<=13/\i=.int .i64 k/\Hid (∀ j,j<k->¬ (Gl.lo j<=r/\r<=Gl.hi j))/\Below w.heap.size w wr) (fun i _=>13-(intOf i).toNat)
 case atStart=>exact⟨0,Ω,rfl,fun j hj=>absurd hj Ω,Below.refl _ _⟩
 case round =>
  obtain⟨k,hk,rfl,hn,hb⟩:=hrel
  by_cases au:k<13
  ·have hi:=fun W=>idx k au W
   have hsz:=hb.size
   by_cases h2:Gl.lo k<=r
   ·by_cases h3:r<=Gl.hi k
    ·go_wp2
     go_ret
     exact⟨yD (Gl.Oj r k au h2 h3),hb.alloc hsz _⟩
    ·go_wp2
     go_roundw
     case rel=>exact⟨k+1,Ω,by go_num,I1 hn.out (fun h=>h3 h.2),hb.alloc hsz _⟩
     case measure=>simp[intOf];omega
   ·go_wp2
    go_roundw
    case rel=>exact⟨k+1,Ω,by go_num,I1 hn.out (fun h=>h2 h.1),hb.alloc hsz _⟩
    case measure=>simp[intOf];omega
  ·obtain rfl:k=13:=Ω
   go_wp2
   go_ret
   exact⟨yD (Gl.KZ r hn.out),hb⟩
end Go.Proofs.YtdacpmgnhkmnkaaGreatDoor
namespace Go.Proofs.YtdacpmgnhkmnkaaGreatDoor
namespace Gl
def unit(r:Int):List UInt8 :=
 if r<128 then[UInt8.ofNat r.toNat]
 else if r<2048 then[UInt8.ofNat (192+r.toNat/64),UInt8.ofNat (128+r.toNat%64)]
 else[UInt8.ofNat (224+r.toNat/4096),UInt8.ofNat (128+r.toNat/64%64),UInt8.ofNat (128+r.toNat%64)]
def value:List UInt8->Int
 |[a]=>a.toNat
 |[a,b]=>a.toNat%32*64+b.toNat%64
 |a::b::c::_=>a.toNat%16*4096+b.toNat%64*64+c.toNat%64
 |[]=>0
def fits(n:Nat)(l:List UInt8):Bool:=decide (n<=l.length)&&decide (0<=script (value (l.take n)))&&decide (unit (value (l.take n))=l.take n)
def first(l:List UInt8):Option Int :=
 if fits 1 l then some (value (l.take 1))else if fits 2 l then some (value (l.take 2))else if fits 3 l then some (value (l.take 3))else none
def decodeN:Nat->List UInt8->Option (List Int)
 |0,l=>if l=[]then some []else none
 |f+1,l=>if l=[]then some []else match first l with
  |none=>none
  |some r=>(decodeN f (l.drop (unit r).length)).map (r::·)
def decode(l:List UInt8):Option (List Int):=decodeN l.length l
def units(L:List Int):List UInt8:=L.flatMap unit
def valid(L:List Int):Bool:=L.all fun r=>decide (0<=script r)
theorem ZO(r:Int):(unit r).length=if r<128 then 1 else if r<2048 then 2 else 3:=by
 unfold unit;split
 ·rfl
 ·split<;>rfl
theorem Z3(r:Int):1<=(unit r).length/\(unit r).length<=3:=by
 rw[ZO];repeat' split
 all_goals omega
theorem zc2{r:Int}(h0:0<=r)(h:r<128):∃ a,unit r=[a]/\(a.toNat:Int)=r:=by refine⟨_,by unfold unit;rw[bt h],?_⟩;rw[zm8];omega
theorem Yj{r:Int}(h0:128<=r)(h:r<2048):∃ a b,unit r=[a,b]/\a.toNat=192+r.toNat/64/\b.toNat=128+r.toNat%64:=by refine⟨_,_,by unfold unit;rw[bC Ω,bt h],?_,?_⟩<;>rw[zm8]<;>omega
theorem zaf{r:Int}(h0:2048<=r)(h:r<=65535):∃ a b c,unit r=[a,b,c]/\a.toNat=224+r.toNat/4096/\b.toNat=128+r.toNat/64%64/\c.toNat=128+r.toNat%64:=by refine⟨_,_,_,by unfold unit;rw[bC Ω,bC Ω],?_,?_,?_⟩<;>rw[zm8]<;>omega
theorem zf8{r:Int}(h0:0<=r)(h:r<=65535):value (unit r)=r:=by
 by_cases h1:r<128
 ·obtain⟨a,e,ha⟩:=zc2 h0 h1;rw[e];simp[value,ha]
 by_cases h2:r<2048
 ·obtain⟨a,b,e,ha,hb⟩:=Yj Ω h2;rw[e];simp only[value,ha,hb];omega
 ·obtain⟨a,b,c,e,ha,hb,hc⟩:=zaf Ω h;rw[e];simp only[value,ha,hb,hc];omega
theorem pz{n:Nat}{l:List UInt8}:fits n l=true↔n<=l.length/\0<=script (value (l.take n))/\unit (value (l.take n))=l.take n:=by unfold fits;simp[and_assoc]
theorem rB{n:Nat}{l:List UInt8}(h:fits n l=true):(unit (value (l.take n))).length=n:=by obtain⟨h1,_,h2⟩:=pz.1 h;rw[h2,k8];omega
theorem zf9{l:List UInt8}{r:Int}(h:first l=some r):0<=script r/\∃ t,l=unit r++t:=by
 unfold first at h
 have key:∀ n,fits n l=true->0<=script (value (l.take n))/\∃ t,l=unit (value (l.take n))++t:=fun n hn=>by obtain⟨_,h2,h3⟩:=pz.1 hn;exact⟨h2,l.drop n,by rw[h3,Fu]⟩
 split at h
 ·rename_i h1;injection h with h;subst h;exact key 1 h1
 split at h
 ·rename_i h1;injection h with h;subst h;exact key 2 h1
 split at h
 ·rename_i h1;injection h with h;subst h;exact key 3 h1
 ·cases h
theorem LZ{r:Int}(h:0<=script r)(t:List UInt8):fits (unit r).length (unit r++t)=true:=by have hb:=gm h;rw[pz];rw[List.take_left,zf8 Ω Ω];exact⟨Ψ,h,rfl⟩
theorem zav{r:Int}(h:0<=script r)(t:List UInt8):first (unit r++t)=some r:=by
 have hb:=gm h;have hf:=LZ h t;have hv:value ((unit r++t).take (unit r).length)=r:=by rw[List.take_left,zf8 Ω Ω]
 by_cases h1:r<128
 ·have hl:(unit r).length=1:=by rw[ZO,bt h1]
  rw[hl]at hf hv;unfold first;rw[bt hf,hv]
 by_cases h2:r<2048
 ·have hl:(unit r).length=2:=by rw[ZO,bC h1,bt h2]
  have n1:¬ fits 1 (unit r++t)=true:=fun hn=>by have hn2:=rB hn;obtain⟨a,b,e,ha,hb'⟩:=Yj (r:=r) Ω h2;rw[e]at hn2;simp only[gQ,zl6,xI,value]at hn2;rw[ZO,bC Ω]at hn2;split at hn2<;>omega
  rw[hl]at hf hv;unfold first;rw[bC n1,bt hf,hv]
 ·have hl:(unit r).length=3:=by rw[ZO,bC h1,bC h2]
  obtain⟨a,b,c,e,ha,hb',hc⟩:=zaf (r:=r) Ω Ω;have n1:¬ fits 1 (unit r++t)=true:=fun hn=>by have hn2:=rB hn;rw[e]at hn2;simp only[gQ,zl6,xI,value]at hn2;rw[ZO,bC Ω]at hn2;split at hn2<;>omega
  have n2:¬ fits 2 (unit r++t)=true:=fun hn=>by
   have hn2:=rB hn;obtain⟨_,_,hn3⟩:=pz.1 hn;rw[e]at hn2 hn3;simp only[gQ,zl6,xI,value]at hn2 hn3;rw[ZO]at hn2;have q1:¬ (↑a.toNat%32*64+↑b.toNat%64:Int)<128:=fun hh=>by rw[bt hh]at hn2;omega
   rw[bC q1]at hn2;have q2:(↑a.toNat%32*64+↑b.toNat%64:Int)<2048:=by
    by_cases hh:(↑a.toNat%32*64+↑b.toNat%64:Int)<2048
    ·exact hh
    ·rw[bC hh]at hn2;omega
   obtain⟨a',b',e',ha2,fG⟩:=Yj Ω q2;rw[e']at hn3;injection hn3 with e1 e2;rw[e1]at ha2;omega
  rw[hl]at hf hv;unfold first;rw[bC n1,bC n2,bt hf,hv]
theorem Ux{l:List UInt8}(h:0<l.length)(hs:0<=script ((Lib.decodeL l).1:Int)):first l=some ((Lib.decodeL l).1:Int)/\(Lib.decodeL l).2=(unit ((Lib.decodeL l).1:Int)).length:=by
 have key:∀ c:Nat,0<=script (c:Int)->∀ t,l=unit (c:Int)++t->first l=some (c:Int):=fun c hc t e=>by rw[e];exact zav hc t
 have hbd:=gm hs;rw[Lib.decodeL_N]at hs hbd ⊢;unfold Lib.decodeN at hs hbd ⊢;match l,h with
 |a::l',_ =>
  simp only[cu,XL,zl4]at hs hbd key ⊢
  by_cases h1:a.toNat<128
  ·simp only[h1,if_true]at hs hbd ⊢
   obtain⟨a',e,ha⟩:=zc2 (r:=(a.toNat:Int)) Ω Ω
   have ea:a'=a:=zmi Ω
   subst ea
   exact⟨key _ hs l' (by rw[e];rfl),by rw[e];rfl⟩
  simp only[h1,if_false]at hs hbd ⊢
  by_cases h2:a.toNat/32=6/\(1<l'.length+1/\(l'.getD 0 0).toNat/64=2)
  ·simp only[h2,Nx,if_true]at hs hbd ⊢
   match l',h2 with
   |b::l'',h2 =>
    simp only[XL]at h2 hs hbd key ⊢
    by_cases h3:a.toNat%32*64+b.toNat%64≥128
    ·simp only[h3,if_true]at hs hbd ⊢
     obtain⟨a',b',e,ha,hb⟩:=Yj (r:=((a.toNat%32*64+b.toNat%64:Nat):Int)) Ω Ω
     have sW:=b.toNat_lt
     have ea:a'=a:=zmi Ω
     have eb:b'=b:=zmi Ω
     subst ea eb
     exact⟨key _ hs l'' (by rw[e];rfl),by rw[e];rfl⟩
    ·simp only[h3,if_false]at hbd;omega
   |[],h2=>simp at h2
  rw[bC h2]at hs hbd ⊢
  by_cases h4:a.toNat/16=14/\(1<l'.length+1/\(l'.getD 0 0).toNat/64=2)/\(2<l'.length+1/\(l'.getD 1 0).toNat/64=2)
  ·rw[bt h4]at hs hbd ⊢
   obtain⟨b,c,l'',rfl⟩:∃ b c l'',l'=b::c::l'':=by
    cases l' with
    |nil=>simp at h4
    |cons b l1 =>
     cases l1 with
     |nil=>simp at h4
     |cons c l2=>exact⟨b,c,l2,rfl⟩
   simp only[XL,zl4]at h4 hs hbd key ⊢
   generalize hR:a.toNat%16*4096+b.toNat%64*64+c.toNat%64=R at *
   by_cases h5:R≥2048/\(R<55296∨(57344<=R/\R<=1114111))
   ·rw[bt h5]at hs hbd ⊢
    simp only at hs hbd ⊢
    obtain⟨a',b',c',e,ha,hb,hc⟩:=zaf (r:=(R:Int)) Ω Ω
    have hal:=a.toNat_lt
    have sW:=b.toNat_lt
    have lY:=c.toNat_lt
    have ea:a'=a:=zmi Ω
    have eb:b'=b:=zmi Ω
    have ec:c'=c:=zmi Ω
    subst ea eb ec
    exact⟨key _ hs l'' (by rw[e];rfl),by rw[e];rfl⟩
   ·rw[bC h5]at hbd
    simp only at hbd;omega
  rw[bC h4]at hs hbd ⊢
  split at hbd
  ·split at hbd
   ·simp only at hbd;omega
   ·simp only at hbd;omega
  ·simp only at hbd;omega
theorem Uw{r:Int}(h:0<=script r)(t:List UInt8):Lib.decodeL (unit r++t)=(r.toNat,(unit r).length):=by
 have hb:=gm h;rw[Lib.decodeL_N];unfold Lib.decodeN;by_cases h1:r<128
 ·obtain⟨a,e,ha⟩:=zc2 (r:=r) Ω h1;rw[e];simp only[gQ,XL];rw[bt Ω,show a.toNat=r.toNat by omega];rfl
 by_cases h2:r<2048
 ·obtain⟨a,b,e,ha,hb'⟩:=Yj (r:=r) Ω h2;rw[e];simp only[gQ,XL,zl4,cu];rw[bC Ω,bt Ω,bt Ω,show a.toNat%32*64+b.toNat%64=r.toNat by omega];rfl
 ·obtain⟨a,b,c,e,ha,hb',hc⟩:=zaf (r:=r) Ω Ω;rw[e];simp only[gQ,XL,zl4,cu];rw[bC Ω,bC Ω,bt Ω,bt Ω,show a.toNat%16*4096+b.toNat%64*64+c.toNat%64=r.toNat by omega];rfl
theorem Uy{l:List UInt8}(hs:script ((Lib.decodeL l).1:Int)<0):first l=none:=by
 cases hf:first l with
 |none=>rfl
 |some r =>
  obtain⟨h0,t,e⟩:=zf9 hf
  have hb:=gm h0
  rw[e,Uw h0]at hs
  simp only at hs
  rw[show((r.toNat:Nat):Int)=r by omega]at hs
  omega
theorem YY:∀(f:Nat)(l:List UInt8)(L:List Int),l.length<=f->(decodeN f l=some L↔valid L=true/\l=units L)
 |0,l,L,h=>by
  have hl:l=[]:=sr.1 Ω;subst hl;simp only[decodeN,if_true];constructor
  ·intro h;injection h with h;subst h;exact⟨rfl,rfl⟩
  ·rintro⟨h1,h2⟩;cases L with
   |nil=>rfl
   |cons r L =>
    have:=(Z3 r).1
    have h3:=ep List.length h2
    simp[units]at h3;omega
 |f+1,l,L,h=>by
  by_cases hl:l=[]
  ·subst hl;simp only[decodeN,if_true];constructor
   ·intro h;injection h with h;subst h;exact⟨rfl,rfl⟩
   ·rintro⟨h1,h2⟩;cases L with
    |nil=>rfl
    |cons r L =>
     have:=(Z3 r).1
     have h3:=ep List.length h2
     simp[units]at h3;omega
  ·have hpos:0<l.length:=XK.2 hl;simp only[decodeN,bC hl];cases hf:first l with
   |none =>
    constructor
    ·intro h;cases h
    ·rintro⟨h1,h2⟩
     cases L with
     |nil=>exact absurd h2 hl
     |cons r L =>
      simp only[valid,qt,gJ,jk]at h1
      rw[h2,show units (r::L)=unit r++units L from rfl,zav h1.1]at hf
      cases hf
   |some r =>
    obtain⟨h0,t,e⟩:=zf9 hf
    have hb:=(Z3 r).1
    have ht:l.drop (unit r).length=t:=by rw[e,List.drop_left]
    have ih:=YY f t
    have hlen:t.length<=f:=by have h3:=ep List.length e;simp at h3;omega
    simp only[ht]
    constructor
    ·intro h
     cases hd:decodeN f t with
     |none=>rw[hd]at h;cases h
     |some M =>
      rw[hd]at h
      injection h with h
      subst h
      obtain⟨v1,v2⟩:=(ih M hlen).1 hd
      refine⟨?_,?_⟩
      ·simp only[valid,qt,gJ,jk];exact⟨h0,v1⟩
      ·rw[e,v2];rfl
    ·rintro⟨h1,h2⟩
     cases L with
     |nil=>exact absurd h2 hl
     |cons r' L =>
      simp only[valid,qt,gJ,jk]at h1
      have e2:l=unit r'++units L:=h2
      have hr:r'=r:=by rw[e2,zav h1.1]at hf;injection hf
      subst hr
      have ht2:units L=t:=by rw[e]at e2;exact(List.append_cancel_left e2).symm
      rw[(ih L hlen).2 ⟨h1.2,ht2.symm⟩];rfl
theorem nI(l:List UInt8)(L:List Int):decode l=some L↔valid L=true/\l=units L:=YY l.length l L (dz _)
theorem zb6(f:Nat)(l:List UInt8)(h:l.length<=f):decodeN f l=decode l:=by
 have h1:=YY f l;have h2:=nI l;cases hd:decodeN f l with
 |some L=>exact((h2 L).2 ((h1 L h).1 hd)).symm
 |none =>
  cases hd2:decode l with
  |none=>rfl
  |some L=>rw[(h1 L h).2 ((h2 L).1 hd2)]at hd;cases hd
theorem GQ:decode []=some []:=rfl
theorem mj{l:List UInt8}(h:0<l.length):decode l=match first l with|none=>none|some r=>(decode (l.drop (unit r).length)).map (r::·):=by
 have hl:l≠[]:=XK.1 h;rw[←zb6 (l.length+1) l Ω];simp only[decodeN,bC hl];cases hf:first l with
 |none=>rfl
 |some r=>simp only;rw[zb6 _ _ Ψ]
theorem xM(L M:List Int):units (L++M)=units L++units M:=by simp[units]
theorem xL(L M:List Int):valid (L++M)=(valid L&&valid M):=by simp[valid]
theorem KC(L:List Int):L.length<=(units L).length/\(units L).length<=3*L.length:=by
 induction L with
 |nil=>simp[units]
 |cons r L ih =>
  have:=Z3 r
  have e:units (r::L)=unit r++units L:=rfl
  rw[e];simp;omega
end Gl
end Go.Proofs.YtdacpmgnhkmnkaaGreatDoor
namespace Go.Proofs.YtdacpmgnhkmnkaaGreatDoor
open Go.RowKit
theorem Zy(a:UInt8):wrap64 (a.toNat:Int)=a.toNat:=by have:=a.toNat_lt;exact IntWalk.wrap64_in _ ⟨Ω,Ω⟩
theorem zb7{a b:Int}(h:0<=a):a.tmod b=a%b:=Int.tmod_eq_emod_of_nonneg h
theorem af9(a b:UInt8):wrap64 (wrap64 ((wrap64 (a.toNat:Int)).tmod 32*64)+(wrap64 (b.toNat:Int)).tmod 64)=Gl.value [a,b]:=by rw[Zy,Zy,zb7 Ω,zb7 Ω];have h1:wrap64 ((a.toNat:Int)%32*64)=(a.toNat:Int)%32*64:=IntWalk.wrap64_in _ ⟨Ω,Ω⟩;rw[h1];exact IntWalk.wrap64_in _ ⟨Ω,Ω⟩
theorem af8(a b c:UInt8):wrap64 (wrap64 (wrap64 ((wrap64 (a.toNat:Int)).tmod 16*4096)+wrap64 ((wrap64 (b.toNat:Int)).tmod 64*64))+(wrap64 (c.toNat:Int)).tmod 64)=Gl.value [a,b,c]:=by rw[Zy,Zy,Zy,zb7 Ω,zb7 Ω,zb7 Ω];have h1:wrap64 ((a.toNat:Int)%16*4096)=(a.toNat:Int)%16*4096:=IntWalk.wrap64_in _ ⟨Ω,Ω⟩;have h2:wrap64 ((b.toNat:Int)%64*64)=(b.toNat:Int)%64*64:=IntWalk.wrap64_in _ ⟨Ω,Ω⟩;rw[h1,h2];have h3:wrap64 ((a.toNat:Int)%16*4096+(b.toNat:Int)%64*64)=(a.toNat:Int)%16*4096+(b.toNat:Int)%64*64:=IntWalk.wrap64_in _ ⟨Ω,Ω⟩;rw[h3];exact IntWalk.wrap64_in _ ⟨Ω,Ω⟩
theorem Tu(a:UInt8)(w:World) :
  Calls Tryz.prog 173 #[.string ⟨#[a]⟩] w fun e w'=>e=.returned (.int .i64 (Gl.value [a]))/\Below w.heap.size w w':=by
 go_enter func173,ntmps173
 go_wp2
 go_ret
 exact⟨yD (Zy a),Below.refl _ _⟩
theorem Tt(a b:UInt8)(w:World) :
  Calls Tryz.prog 173 #[.string ⟨#[a,b]⟩] w fun e w'=>e=.returned (.int .i64 (Gl.value [a,b]))/\Below w.heap.size w w':=by
 go_enter func173,ntmps173
 go_wp2
 go_quiet (fail)
 go_wp2
 go_ret
 exact⟨yD (af9 a b),Go.below_drewN (Below.refl _ _) _⟩
theorem Ts(a b c:UInt8)(w:World) :
  Calls Tryz.prog 173 #[.string ⟨#[a,b,c]⟩] w fun e w'=>e=.returned (.int .i64 (Gl.value [a,b,c]))/\Below w.heap.size w w':=by
 go_enter func173,ntmps173
 go_wp2
 go_quiet (fail)
 go_wp2
 go_ret
 exact⟨yD (af8 a b c),Go.below_drewN (Below.refl _ _) _⟩
theorem FP(s:ByteArray)(w:World)(h1:1<=s.size)(h3:s.size<=3) :
  Calls Tryz.prog 173 #[.string s] w fun e w'=>e=.returned (.int .i64 (Gl.value s.data.toList))/\Below w.heap.size w w':=by
 obtain⟨⟨l⟩⟩:=s
 match l,h1,h3 with
 |[a],_,_=>exact Tu a w
 |[a,b],_,_=>exact Tt a b w
 |[a,b,c],_,_=>exact Ts a b c w
 |[],h,_=>simp[ByteArray.size]at h
 |a::b::c::d::r,_,h=>simp[ByteArray.size]at h
theorem XZ{x:Int}(h0:0<=x)(h1:x<=255):((UInt8.ofNat x.toNat).toNat:Int)=x:=by rw[zm8];omega
theorem zga(xs:List Int)(h:∀ x∈xs,0<=x/\x<=255)(w:World) :
  (convert 218 9 (.slice (some ⟨w.heap.size,0,none⟩) xs.length xs.length)).run Tryz.prog (w.alloc (.cells (xs.map (Value.int .u8)).toArray 5)) =
   .ok (.string ⟨(xs.map (fun x=>UInt8.ofNat x.toNat)).toArray⟩) (w.alloc (.cells (xs.map (Value.int .u8)).toArray 5)):=by
 have:=run_convert_bytes_back (P:=Tryz.prog) (w.alloc (.cells (xs.map (Value.int .u8)).toArray 5)) 218 9 5 ⟨w.heap.size,0,none⟩ xs.length (xs.map (fun x=>UInt8.ofNat x.toNat)) underlying218 underlying5 underlying9 (fun j hj=>by
  have hj':j<xs.length:=by simpa using hj
  have e:(Addr.add ⟨w.heap.size,0,none⟩ j)=⟨w.heap.size,j,none⟩:=by unfold Addr.add;split<;>simp_all
  rw[e];simp only[List.getElem_map];obtain⟨a,b⟩:=h xs[j] (gU _);rw[XZ a b];have hh:=heap_alloc_new w (.cells (xs.map (Value.int .u8)).toArray 5);unfold World.cell?;rw[hh];simp [hj'])
 simpa using this
theorem Au{l l':List UInt8}(h:l=l'):Ending.returned (.string ⟨l.toArray⟩)=.returned (.string ⟨l'.toArray⟩):=by rw[h]
theorem Gl.NM{r:Int}(h:r<128):Gl.unit r=[UInt8.ofNat r.toNat]:=by unfold Gl.unit;rw[bt h]
theorem Gl.NL{r:Int}(h0:0<=r)(h1:128<=r)(h:r<2048):Gl.unit r=[UInt8.ofNat (192+r/64).toNat,UInt8.ofNat (128+r%64).toNat]:=by unfold Gl.unit;rw[bC Ω,bt h,show(192+r/64).toNat=192+r.toNat/64 by omega,show(128+r%64).toNat=128+r.toNat%64 by omega]
theorem Gl.FB{r:Int}(h0:0<=r)(h:2048<=r):Gl.unit r=[UInt8.ofNat (224+r/4096).toNat,UInt8.ofNat (128+r/64%64).toNat,UInt8.ofNat (128+r%64).toNat]:=by unfold Gl.unit;rw[bC Ω,bC Ω,show(224+r/4096).toNat=224+r.toNat/4096 by omega,show(128+r/64%64).toNat=128+r.toNat/64%64 by omega,show(128+r%64).toNat=128+r.toNat%64 by omega]
theorem vP(r:Int)(w:World)(h0:0<=r)(h1:r<=65535) :
  Calls Tryz.prog 175 #[.int .i64 r] w fun e w'=>e=.returned (.string ⟨(Gl.unit r).toArray⟩)/\Below w.heap.size w w':=by
 by_cases h2:r<128
 ·have hk:=zga [r] (by simp;omega)
  simp only[nK,BY,cu,dw]at hk
  go_enter func175,ntmps175
  go_wp2
  go_ret
  exact⟨Au (Gl.NM h2).symm,(Below.refl _ _).alloc (dz _) _⟩
 by_cases h3:r<2048
 ·have hk:=zga [192+r/64,128+r%64] (by simp;omega)
  simp only[nK,BY,cu,dw]at hk
  go_enter func175,ntmps175
  go_wp2
  go_ret
  exact⟨Au (Gl.NL h0 Ω h3).symm,(Below.refl _ _).alloc (dz _) _⟩
 ·have hk:=zga [224+r/4096,128+r/64%64,128+r%64] (by simp;omega)
  simp only[nK,BY,cu,dw]at hk
  go_enter func175,ntmps175
  go_wp2
  go_ret
  exact⟨Au (Gl.FB h0 Ω).symm,(Below.refl _ _).alloc (dz _) _⟩
def tq(o:Option (List Int))(w:World)(e:Ending)(w':World):Prop :=
 Below w.heap.size w w'/\∃ v,OI w' w.heap.size v (o.getD [])/\e=.returned (.tuple #[v,.int .i64 (if o.isSome then 0 else 4)])
theorem QY{s:ByteArray}{pos:Nat}(h:pos<s.size)(hs:0<=Gl.script ((Utf8.decode s pos).1:Int))(acc:List Int)
  (ha:Gl.decode s.data.toList=(Gl.decode (s.data.toList.drop pos)).map (acc++·)) :
  Gl.decode s.data.toList=(Gl.decode (s.data.toList.drop (pos+(Utf8.decode s pos).2))).map ((acc++[((Utf8.decode s pos).1:Int)])++·):=by
 rw[←Lib.decodeL_drop]at hs ⊢
 have hl:0<(s.data.toList.drop pos).length:=by rw[tD];have:=Lib.size_eq s;omega
 obtain⟨h1,h2⟩:=Gl.Ux hl hs
 rw[ha,Gl.mj hl,h1]
 simp only
 rw[XG,←h2,jv]
 congr 1
 funext L
 simp
theorem QZ{s:ByteArray}{pos:Nat}(h:pos<s.size)(hs:Gl.script ((Utf8.decode s pos).1:Int)<0)(acc:List Int)
  (ha:Gl.decode s.data.toList=(Gl.decode (s.data.toList.drop pos)).map (acc++·)):Gl.decode s.data.toList=none:=by
 rw[←Lib.decodeL_drop]at hs
 have hl:0<(s.data.toList.drop pos).length:=by rw[tD];have:=Lib.size_eq s;omega
 rw[ha,Gl.mj hl,Gl.Uy hs];rfl
theorem JL{s:ByteArray}{pos:Nat}(h:¬ pos<s.size)(acc:List Int)
  (ha:Gl.decode s.data.toList=(Gl.decode (s.data.toList.drop pos)).map (acc++·)):Gl.decode s.data.toList=some acc:=by
 have:=Lib.size_eq s
 rw[ha,List.drop_of_length_le Ω,Gl.GQ];simp
set_option maxHeartbeats 4000000 in
theorem DV(s:ByteArray)(w:World)(ht:Gl.Tab w)(hs:s.size<=10000000000000) :
  Calls Tryz.prog 77 #[.string s] w (tq (Gl.decode s.data.toList) w):=by
 have hv:=ht.lt
 go_enter func77,ntmps77
 go_wp2_with fail
 go_loopw [2] (fun v wr=>∃(pos:Nat)(acc:List Int),OI wr (w.heap.size+1) v acc/\wr.heap[w.heap.size]?=some (.stringIter s pos)/\Below w.heap.size w wr/\Hid (Gl.decode s.data.toList=(Gl.decode (s.data.toList.drop pos)).map (acc++·))/\acc.length<=pos/\acc.length<=s.size) (fun _ wr=>s.size-wr.iterPos w.heap.size)
 case atStart =>
  exact⟨0,[],OI.nil _ _,by have:=World.iter_heap w s 0;simpa using this,(Below.refl _ w).alloc (dz _) _,by simp[Hid],Ψ,Ψ⟩
 case round =>
  obtain⟨pos,acc,hown,hit,Gv,hacc,hal,ahx⟩:=hrel
  have hsz:w.heap.size<wr.heap.size:=(Fb.1 hit).1
  have u9:=ht.below Gv (dz _)
  by_cases hp:pos<s.size
  ·have oh:∀ ty,(Instr.next (.pointer (some ⟨w.heap.size,0,none⟩)) true ty).run Tryz.prog wr=_:=fun ty=>Lib.run_next_any_at wr w.heap.size s pos ty hit hp
   have hwd:=Lib.width_pos s pos
   have hd1:=decode_le s pos
   have tV:=hown.iterAt (zmt _) s (pos+(Utf8.decode s pos).2)
   have afn:=Lib.iterAt_heap wr w.heap.size s pos (pos+(Utf8.decode s pos).2) hit
   have afs:=Lib.below_iterAt Gv (k:=w.heap.size) Ω s (pos+(Utf8.decode s pos).2)
   have afg:=u9.iterAt (k:=w.heap.size) Ω s (pos+(Utf8.decode s pos).2)
   by_cases h0:Gl.script ((Utf8.decode s pos).1:Int)<0
   ·have Gt:=QZ hp h0 acc hacc.out
    have HF:=Lib.hid Gt
    clear Gt
    go_wp2_with (go_at_call 79;refine(Z2 _ _ afg).mono ?_;rintro e w1 ⟨rfl,j8⟩)
    go_ret2
    exact⟨afs.trans (j8.mono (by rw[Lib.iterAt_size];omega)),.slice none 0 0,by rw[HF.out];exact OI.nil _ _,by rw[HF.out];rfl⟩
   ·have Qg:=Lib.hid (QY hp Ω acc hacc.out)
    go_wp2_with (go_at_call 79;refine(Z2 _ _ afg).mono ?_)
    rintro e w1 rfl j8
    have LL:=j8.size
    rw[Lib.iterAt_size]at LL
    have DH:=tV.below j8 (dz _)
    go_wp2_with (at_builtin;go_loud (refine zf7 rfl _ _ rfl w1 (w.heap.size+1) u2 acc ((Utf8.decode s pos).1:Int) rfl DH rfl Ω Ω ?_;intro v' w2 PU fG hg2))
    go_roundw
    case rel =>
     have hi1:w1.heap[w.heap.size]?=some (.stringIter s (pos+(Utf8.decode s pos).2)):=(j8.block _ (by rw[Lib.iterAt_size];omega)).trans afn
     exact⟨pos+(Utf8.decode s pos).2,acc++[((Utf8.decode s pos).1:Int)],PU,(fG.block _ Ω).trans hi1,(afs.trans (j8.mono (by rw[Lib.iterAt_size];omega))).trans (fG.mono Ω),Qg,by simp;omega,by simp;omega⟩
    case measure =>
     have hi1:w1.heap[w.heap.size]?=some (.stringIter s (pos+(Utf8.decode s pos).2)):=(j8.block _ (by rw[Lib.iterAt_size];omega)).trans afn
     simp only[World.iterPos,(fG.block _ Ω).trans hi1,hit]
     omega
  ·have oh:∀ ty,(Instr.next (.pointer (some ⟨w.heap.size,0,none⟩)) true ty).run Tryz.prog wr=_:=fun ty=>Lib.run_next_end_at wr w.heap.size s pos ty hit hp
   have Gt:=Lib.hid (JL hp acc hacc.out)
   go_wp2_with fail
   go_ret2
   exact⟨Gv,_,by rw[Gt.out];exact hown.mono Ω,by rw[Gt.out];rfl⟩
theorem Bh(s:ByteArray)(i n:Nat):(s.extract i (i+n)).data.toList=(s.data.toList.drop i).take n:=by rw[Lib.extract_data,show i+n-i=n by omega]
def uD(l:List UInt8)(m:Nat):Prop:=∀ j,1<=j->j<m->Gl.fits j l=false
theorem L3{l:List UInt8}{m:Nat}(hn:uD l m)(hm1:1<=m)(Jn:m<=3)(hf:Gl.fits m l=true):Gl.first l=some (Gl.value (l.take m)):=by
 unfold Gl.first;obtain rfl|rfl|rfl:m=1∨m=2∨m=3:=Ω
 ·rw[bt hf]
 ·rw[bC (by rw[hn 1 Ω Ω];decide),bt hf]
 ·rw[bC (by rw[hn 1 Ω Ω];decide),bC (by rw[hn 2 Ω Ω];decide),bt hf]
theorem D8{l:List UInt8}{m:Nat}(hn:uD l m)(hm:4<=m∨l.length<m):Gl.first l=none:=by
 have h:∀ j,1<=j->j<=3->Gl.fits j l=false:=fun j h1 h3=>by
  by_cases hj:j<m
  ·exact hn j h1 hj
  ·unfold Gl.fits;have:¬ j<=l.length:=Ω;simp[this]
 unfold Gl.first;rw[bC (by rw[h 1 Ω Ω];decide),bC (by rw[h 2 Ω Ω];decide),bC (by rw[h 3 Ω Ω];decide)]
theorem zgb{l:List UInt8}{m:Nat}(hn:uD l m)(hf:Gl.fits m l=false):uD l (m+1):=fun j h1 h2=>by
 rcases zlo (zlw h2)with h|rfl
 ·exact hn j h1 h
 ·exact hf
theorem Lf{s:ByteArray}{pos m:Nat}(h:pos<s.size)(hn:uD (s.data.toList.drop pos) m)(hm1:1<=m)(Jn:m<=3)(hf:Gl.fits m (s.data.toList.drop pos)=true)(acc:List Int)
  (ha:Gl.decode s.data.toList=(Gl.decode (s.data.toList.drop pos)).map (acc++·)) :
  Gl.decode s.data.toList=(Gl.decode (s.data.toList.drop (pos+m))).map ((acc++[Gl.value ((s.data.toList.drop pos).take m)])++·):=by
 have hl:0<(s.data.toList.drop pos).length:=by rw[tD];have:=Lib.size_eq s;omega
 have h1:=L3 hn hm1 Jn hf
 rw[ha,Gl.mj hl,h1]
 simp only
 rw[XG,Gl.rB hf,jv]
 congr 1
 funext L
 simp
theorem Lg{s:ByteArray}{pos m:Nat}(h:pos<s.size)(hn:uD (s.data.toList.drop pos) m)(hm:4<=m∨s.size<pos+m)(acc:List Int)
  (ha:Gl.decode s.data.toList=(Gl.decode (s.data.toList.drop pos)).map (acc++·)):Gl.decode s.data.toList=none:=by
 have hl:0<(s.data.toList.drop pos).length:=by rw[tD];have:=Lib.size_eq s;omega
 rw[ha,Gl.mj hl,D8 hn (by rw[tD];have:=Lib.size_eq s;omega)];rfl
theorem UC{s:ByteArray}{pos m:Nat}(hps:pos+m<=s.size)(r:Int)(hr:Gl.value ((s.data.toList.drop pos).take m)=r) :
  Gl.fits m (s.data.toList.drop pos)=(decide (0<=Gl.script r)&&decide (Gl.unit r=(s.data.toList.drop pos).take m)):=by
 unfold Gl.fits
 have:m<=(s.data.toList.drop pos).length:=by rw[tD];have:=Lib.size_eq s;omega
 rw[hr]
 have h2:decide (m<=(s.data.toList.drop pos).length)=true:=by simpa using this
 rw[h2,pX]
theorem uZ{w:World}{B:Nat}{v:Value}{xs:List Int}(h:OI w B v xs){n:Nat}:OI (w.drewN n) B v xs:=h
theorem K7(r:Int)(w:World) :
  Calls Tryz.prog 174 #[.int .i64 r] w fun e w'=>e=.returned (.int .i64 (Gl.script r))/\w'=w:=(Zi r w).mono fun _ _ h=>⟨h.1,h.2.symm⟩
set_option maxHeartbeats 4000000 in
theorem CQ(s:ByteArray)(w:World)(hs:s.size<=10000000000000) :
  Calls Tryz.prog 140 #[.string s] w (tq (Gl.decode s.data.toList) w):=by
 go_enter func140,ntmps140
 go_wp2_with fail
 go_loopw [4,5] (fun v i wr=>∃(pos:Nat)(acc:List Int),i=.int .i64 pos/\pos<=s.size/\OI wr w.heap.size v acc/\Below w.heap.size w wr/\Hid (Gl.decode s.data.toList=(Gl.decode (s.data.toList.drop pos)).map (acc++·))/\acc.length<=pos) (fun _ i _=>s.size-(intOf i).toNat)
 case atStart=>exact⟨0,[],rfl,Ω,OI.nil _ _,Below.refl _ _,by simp[Hid],Ψ⟩
 case round =>
  obtain⟨pos,acc,rfl,hpos,hown,Gv,hacc,hal⟩:=hrel
  by_cases hp:pos<s.size
  ·obtain⟨wo,rfl⟩:∃ wo:World,wo=wr:=⟨_,rfl⟩
   go_wp2_with fail
   go_loopw [4,6,7] (fun v u n wr=>∃ m:Nat,1<=m/\m<=4/\Below w.heap.size w wr/\uD (s.data.toList.drop pos) m /\
    ((u=.int .i64 0/\n=.int .i64 m/\OI wr w.heap.size v acc) ∨
     (u=.int .i64 m/\n=.int .i64 (m+1)/\m<=3/\Gl.fits m (s.data.toList.drop pos)=true/\OI wr w.heap.size v (acc++[Gl.value ((s.data.toList.drop pos).take m)])))) (fun _ _ n _=>5 - (intOf n).toNat)
   case atStart=>exact⟨1,Ω,Ω,Gv,fun j h1 h2=>absurd h1 Ω,Or.inl ⟨rfl,rfl,hown⟩⟩
   case round =>
    obtain⟨m,hm1,hm4,Jx,hno,tX⟩:=hrel
    rcases tX with⟨rfl,rfl,tV⟩|⟨rfl,rfl,Jn,hfit,tV⟩
    ·by_cases hm:m<=3/\pos+m<=s.size
     ·obtain⟨Jn,hps⟩:=hm
      have hxl:(s.extract pos (pos+m)).size=m:=by simp;omega
      have o8:=FP (s.extract pos (pos+m))
      have hxe:=Bh s pos m
      rw[hxe,hxl]at o8
      have hfo:=UC hps _ rfl
      generalize hr:Gl.value ((s.data.toList.drop pos).take m)=r at *
      have HR:=Lib.hid hr
      have HXE:=Lib.hid hxe
      have HFO:=Lib.hid hfo
      have HC:=Lib.hid o8
      clear hr hxe hxl hfo o8
      by_cases h0:0<=Gl.script r
      ·have h0':decide (0<=Gl.script r)=true:=by simpa using h0
       have hbd:=Gl.gm h0
       have hte:(s.extract pos (pos+m)).toList=(s.data.toList.drop pos).take m:=by rw[Lib.toList_data,HXE.out]
       by_cases hu:Gl.unit r=(s.data.toList.drop pos).take m
       ·have hub:(Gl.unit r==(s.extract pos (pos+m)).toList)=true:=by rw[hte];simpa using hu
        have HFT:Hid (Gl.fits m (s.data.toList.drop pos)=true):=by show _=true;rw[HFO.out,h0'];simpa using hu
        clear hu hte
        go_wp2_with (go_at_call 173;refine(HC.out _ Ω Ω).mono ?_;rintro e w1 ⟨rfl,j8⟩)
        have k1:IntKind.i64.wrap ((pos:Int)+(m:Int))=(pos:Int)+(m:Int):=IntWalk.i64_in _ ⟨Ω,Ω⟩
        have k2:(0:Int)<=(pos:Int)+(m:Int):=Ω
        have k3:((pos:Int)+(m:Int)).toNat=pos+m:=Ω
        have k4:(pos:Int)<=(pos:Int)+(m:Int):=Ω
        have k5:(pos:Int)+(m:Int)<=(s.size:Int):=Ω
        have k6:(0:Int)<=(pos:Int):=Ω
        go_region_held3 (fun _=>True) (trivial) (first|(go_at_call 174;refine(Zi _ _).mono ?_;rintro e w' ⟨rfl,rfl⟩)|(go_at_call 175;refine(vP _ _ Ω Ω).mono ?_;rintro e w2 ⟨rfl,fG⟩))
        clear k1 k2 k3 k4 k5 k6
        have fG:Below w1.heap.size w1 w2:=⟨fG.os,fG.tape,fG.output,fG.size,fG.block⟩
        have DH:OI w2 w.heap.size u4 acc:=(tV.below j8 (dz _)).below fG (dz _)
        have LL:=j8.size
        have M9:=fG.size
        have hz0:=Jx.size
        go_wp2_with (at_builtin;refine zf7 rfl _ _ rfl w2 w.heap.size u4 acc r rfl DH rfl Ω Ω ?_;intro v' w3 PU hb3 hg3)
        go_roundw
        case rel=>exact⟨m,Ω,Ω,((Jx.trans (j8.mono Jx.size)).trans (fG.mono Ω)).trans hb3,hno,Or.inr ⟨rfl,rfl,Jn,HFT.out,by rw[HR.out];exact PU⟩⟩
        case measure=>simp[intOf];omega
       ·have hub:(Gl.unit r==(s.extract pos (pos+m)).toList)=false:=by rw[hte];simpa using hu
        have HN:=Lib.hid (zgb hno (by rw[HFO.out,h0'];simpa using hu))
        clear hu hte
        go_wp2_with (go_at_call 173;refine(HC.out _ Ω Ω).mono ?_;rintro e w1 ⟨rfl,j8⟩)
        have k1:IntKind.i64.wrap ((pos:Int)+(m:Int))=(pos:Int)+(m:Int):=IntWalk.i64_in _ ⟨Ω,Ω⟩
        have k2:(0:Int)<=(pos:Int)+(m:Int):=Ω
        have k3:((pos:Int)+(m:Int)).toNat=pos+m:=Ω
        have k4:(pos:Int)<=(pos:Int)+(m:Int):=Ω
        have k5:(pos:Int)+(m:Int)<=(s.size:Int):=Ω
        have k6:(0:Int)<=(pos:Int):=Ω
        go_region_held3 (fun _=>True) (trivial) (first|(go_at_call 174;refine(Zi _ _).mono ?_;rintro e w' ⟨rfl,rfl⟩)|(go_at_call 175;refine(vP _ _ Ω Ω).mono ?_;rintro e w2 ⟨rfl,fG⟩))
        clear k1 k2 k3 k4 k5 k6
        have fG:Below w1.heap.size w1 w2:=⟨fG.os,fG.tape,fG.output,fG.size,fG.block⟩
        have DH:OI w2 w.heap.size u4 acc:=(tV.below j8 (dz _)).below fG (dz _)
        have LL:=j8.size
        have hz0:=Jx.size
        go_wp2_with fail
        go_roundw
        case rel=>exact⟨m+1,Ω,Ω,(Jx.trans (j8.mono Jx.size)).trans (fG.mono Ω),HN.out,Or.inl ⟨rfl,by go_num,DH⟩⟩
        case measure=>simp[intOf];omega
      ·have h0':decide (0<=Gl.script r)=false:=by simpa using h0
       have HN:=Lib.hid (zgb hno (by rw[HFO.out,h0'];rfl))
       go_wp2_with (go_at_call 173;refine(HC.out _ Ω Ω).mono ?_;rintro e w1 ⟨rfl,j8⟩)
       go_quiet ((go_at_call 174;exact Calls.quiet_of_same (K7 _ _)))
       go_wp2_with fail
       go_roundw
       case rel=>exact⟨m+1,Ω,Ω,Go.below_drewN (Jx.trans (j8.mono Jx.size)) _,HN.out,Or.inl ⟨rfl,by go_num,uZ (tV.below j8 (dz _))⟩⟩
       case measure=>simp[intOf];omega
     ·have HF:=Lib.hid (Lg hp hno Ω acc hacc.out)
      by_cases Jn:m<=3
      ·have hps:s.size<pos+m:=Ω
       clear hm
       go_wp2_with fail
       go_ret2
       exact⟨Jx,.slice none 0 0,by rw[HF.out];exact OI.nil _ _,by rw[HF.out];rfl⟩
      ·clear hm
       obtain rfl:m=4:=Ω
       go_wp2_with fail
       go_ret2
       exact⟨Jx,.slice none 0 0,by rw[HF.out];exact OI.nil _ _,by rw[HF.out];rfl⟩
    ·have hz:((m:Int)==0)=false:=by simp;omega
     have Qg:=Lib.hid (Lf hp hno hm1 Jn hfit acc hacc.out)
     have hle:pos+m<=s.size:=by have:=(Gl.pz.1 hfit).1;rw[tD]at this;have:=Lib.size_eq s;omega
     go_wp2_with fail
     all_goals
      go_roundw
      case rel=>exact⟨pos+m,acc++[Gl.value ((s.data.toList.drop pos).take m)],by go_num,hle,tV,Jx,Qg,by simp;omega⟩
      case measure=>simp[intOf];omega
  ·have HF:=Lib.hid (JL hp acc hacc.out)
   go_wp2_with fail
   go_ret2
   exact⟨Gv,_,by rw[HF.out];exact hown,by rw[HF.out];rfl⟩
end Go.Proofs.YtdacpmgnhkmnkaaGreatDoor
namespace Go.Proofs.YtdacpmgnhkmnkaaGreatDoor
namespace Gl
def st(r:Int):Bool:=script r != 0
def hb(r:Int):Bool:=script r==4
def base(l:List Int):Bool:=match l.find? st with|some r=>hb r|none=>false
end Gl
end Go.Proofs.YtdacpmgnhkmnkaaGreatDoor
namespace Go.Proofs.YtdacpmgnhkmnkaaGreatDoor
open Go.RowKit Go.Shelf
attribute [local go_sem] Oper.semAt_some
attribute [local go_sem] Oper.semAt_some
end Go.Proofs.YtdacpmgnhkmnkaaGreatDoor
namespace Go.Proofs.YtdacpmgnhkmnkaaGreatDoor
open Go.RowKit
theorem OI.Qo{w:World}{B n:Nat}{v:Value}{xs:List Int}(h:OI w B v xs)(hn:xs.length=n):∃ A c,v=.slice A n c/\n<=c/\RI w A xs/\(A=none->c=0):=by
 subst hn;obtain⟨A,c,e,h1,h2,h3⟩:=h.form;refine⟨A,c,e,h1,h3,fun hA=>?_⟩;subst hA;rcases h.2 with⟨hv,_⟩|⟨g,cap,cur,hv,_⟩
 ·rw[e]at hv;injection hv
 ·rw[e]at hv;injection hv with hv;cases hv
theorem Gl.uh(l:List UInt8):((Gl.decode l).getD []).length<=l.length:=by
 cases h:Gl.decode l with
 |none=>simp
 |some L =>
  obtain⟨_,rfl⟩:=(Gl.nI l L).1 h
  exact(Gl.KC L).1
def QK(b:Bool):Int:=if b then 0 else 4
theorem tq.form{o:Option (List Int)}{w w':World}{e:Ending}(h:tq o w e w'):Below w.heap.size w w'/\∃ v,OI w' w.heap.size v (o.getD [])/\e=.returned (.tuple #[v,.int .i64 (QK o.isSome)]):=h
theorem zgc{α:Type}(x:α):QK (some x:Option α).isSome=0:=rfl
theorem zgd{α:Type}:QK (none:Option α).isSome=4:=rfl
end Go.Proofs.YtdacpmgnhkmnkaaGreatDoor
namespace Go.Proofs.YtdacpmgnhkmnkaaGreatDoor
namespace Nm
def GR:Bool->List Int->Bool
 |_,[]=>false
 | p,x::t=>(p&&x==32)||GR (x==32) t
def mG(L:List Int):Bool:=L.head?==some 32||L.getLast?==some 32||GR false L
def common(L:List Int):Bool:=L.all fun r=>Gl.script r==0
def check(l:List UInt8):Int :=
 if l=[]then 14 else if 40<l.length then 3
 else match Gl.decode l with
  |none=>4
  | some L=>if mG L||common L then 14 else 0
def read(l:List UInt8):List Int:=if check l=0 then(Gl.decode l).getD []else[]
def qF:Bool->List UInt8->Bool
 |_,[]=>false
 | p,x::t=>(p&&x==32)||qF (x==32) t
theorem Mj{l:List UInt8}(h:∀ x∈l,x≠32)(hne:l≠[])(p:Bool)(t:List UInt8):qF p (l++t)=qF false t:=by
 induction l generalizing p with
 |nil=>exact absurd rfl hne
 |cons x l ih =>
  have hx:(x==32)=false:=by simpa using h x Ψ
  simp only[gQ,qF,hx,l8,iS]
  cases l with
  |nil=>rfl
  |cons y l=>exact ih (fun z hz=>h z (by simp[hz])) Ψ _
theorem zge:Gl.unit 32=[32]:=by decide
theorem Yk{k:Nat}(h:k%256≠32):UInt8.ofNat k≠32:=by intro e;have:=ep UInt8.toNat e;simp at this;omega
theorem zaw{r:Int}(h:0<=Gl.script r)(hr:r≠32):(∀ x∈Gl.unit r,x≠32)/\Gl.unit r≠[]:=by
 have hb:=Gl.gm h;unfold Gl.unit;split
 ·refine⟨fun x hx=>?_,Ψ⟩;simp only[qx]at hx;subst hx;exact Yk Ω
 ·split
  ·refine⟨fun x hx=>?_,Ψ⟩;simp only[fF,j4,k7]at hx;rcases hx with rfl|rfl
   ·exact Yk Ω
   ·exact Yk Ω
  ·refine⟨fun x hx=>?_,Ψ⟩;simp only[fF,j4,k7]at hx;rcases hx with rfl|rfl|rfl
   ·exact Yk Ω
   ·exact Yk Ω
   ·exact Yk Ω
theorem w5:∀(L:List Int)(p:Bool),Gl.valid L=true->qF p (Gl.units L)=GR p L
 |[],p,_=>rfl
 |r::L,p,h=>by
  simp only[Gl.valid,qt,gJ,jk]at h;have ih:=fun q=>w5 L q h.2;simp only[Gl.units,fJ]at ih ⊢;by_cases hr:r=32
  ·subst hr;rw[zge];simp[qF,GR,ih]
  ·have hu:=zaw h.1 hr;have hrb:(r==32)=false:=by simpa using hr
   rw[Mj hu.1 hu.2,ih];simp[GR,hrb]
theorem TL(x:UInt8)(l:List UInt8):[32,32].isPrefixOf (x::l)=(x==32&&(l.head?==some 32)):=by
 cases l with
 |nil=>simp[List.isPrefixOf]
 |cons y l =>
  simp only[List.isPrefixOf,List.head?_cons,Kn]
  rw[nU]
  simp
  constructor
  ·rintro⟨a,b⟩;exact⟨a.symm,b.symm⟩
  ·rintro⟨a,b⟩;exact⟨a.symm,b.symm⟩
theorem Mi(l:List UInt8):qF true l=((l.head?==some 32)||qF false l):=by
 cases l with
 |nil=>rfl
 |cons x l=>simp[qF]
theorem wB:∀ l:List UInt8,0<=Lib.index l [32,32]↔qF false l=true
 |[]=>by decide
 |x::l=>by
  have ih:=wB l;have hge:=Lib.index_ge l [32,32];have e:Lib.index (x::l) [32,32]=if [32,32].isPrefixOf (x::l)then 0 else if Lib.index l [32,32]==-1 then -1 else Lib.index l [32,32]+1:=rfl
  have d:qF false (x::l)=qF (x==32) l:=by simp[qF]
  have step:0<=(if Lib.index l [32,32]==-1 then -1 else Lib.index l [32,32]+1)↔qF false l=true:=by
   rw[←ih];by_cases h1:Lib.index l [32,32]=-1
   ·rw[h1];decide
   ·rw[bC (by simpa using h1)];omega
  rw[e,d,TL];by_cases hx:x=32
  ·subst hx;rw[beq_self_eq_true,pX,Mi];cases hh:(l.head?==some 32)
   ·rw[bC Δ,iS];exact step
   ·simp
  ·have hxb:(x==32)=false:=by simpa using hx
   rw[hxb,ew,bC Δ];exact step
theorem Bu(l:List UInt8):Lib.contains l [32,32]=qF false l:=by unfold Lib.contains;rw[nU,jk];exact wB l
theorem KE{r:Int}(h:0<=Gl.script r)(t:List UInt8):((Gl.unit r++t).head?==some 32)=(r==32):=by
 by_cases hr:r=32
 ·subst hr;rfl
 ·obtain⟨h1,h2⟩:=zaw h hr;have hrb:(r==32)=false:=by simpa using hr
  rw[hrb];cases hu:Gl.unit r with
  |nil=>exact absurd hu h2
  |cons x u =>
   rw[hu]at h1
   simpa using h1 x Ψ
theorem KD{r:Int}(h:0<=Gl.script r)(t:List UInt8):((t++Gl.unit r).getLast?==some 32)=(r==32):=by
 by_cases hr:r=32
 ·subst hr;rw[zge];simp
 ·obtain⟨h1,h2⟩:=zaw h hr;have hrb:(r==32)=false:=by simpa using hr
  rw[hrb,List.getLast?_append];cases hg:(Gl.unit r).getLast? with
  |none=>exact absurd (List.getLast?_eq_none_iff.1 hg) h2
  |some x=>simpa using h1 x (znp hg)
theorem FA{L:List Int}(h:Gl.valid L=true):((Gl.units L).head?==some 32)=(L.head?==some 32):=by
 cases L with
 |nil=>rfl
 |cons r L =>
  simp only[Gl.valid,qt,gJ,jk]at h
  simp only[Gl.units,fJ]
  rw[KE h.1]
  simp
theorem Fy{L:List Int}(h:Gl.valid L=true):((Gl.units L).getLast?==some 32)=(L.getLast?==some 32):=by
 rcases zml L with rfl|⟨M,r,rfl⟩
 ·rfl
 ·rw[znf]at h ⊢;rw[Gl.xL]at h;simp only[Gl.valid,qt,VK,gJ,jk]at h;rw[Gl.xM];have:Gl.units [r]=Gl.unit r:=by simp[Gl.units]
  rw[this,KD h.2.1];simp
theorem By{L:List Int}(h:Gl.valid L=true):mG L=((Gl.units L).head?==some 32||(Gl.units L).getLast?==some 32||Lib.contains (Gl.units L) [32,32]):=by rw[Bu,w5 L false h,FA h,Fy h];rfl
end Nm
end Go.Proofs.YtdacpmgnhkmnkaaGreatDoor
namespace Go.Proofs.YtdacpmgnhkmnkaaGreatDoor
open Go.RowKit
def pN(w:World):Prop:=∃ m,w.cell? ⟨1,0,none⟩=some (.int .i64 m)
theorem pN.lt{w:World}(h:pN w):1<w.heap.size:=by
 obtain⟨m,h⟩:=h;simp only[World.cell?]at h;split at h
 ·rename_i hb;exact(Fb.1 hb).1
 ·cases h
theorem pN.below{w w':World}{B:Nat}(h:pN w)(hb:Below B w w')(hB:w.heap.size<=B):pN w':=by have hl:=h.lt;obtain⟨m,h⟩:=h;exact⟨m,(hb.cell (p:=⟨1,0,none⟩) (by show 1<B;omega)).trans h⟩
theorem zgf(s:ByteArray):s.toList=s.data.toList:=by simp[zns]
theorem JT(b:UInt8):((b.toNat:Int)==32)=(some b==some 32):=by
 rw[nU];simp;constructor
 ·intro h;exact UInt8.toNat_inj.1 (by simpa using(by omega:b.toNat=32))
 ·rintro rfl;rfl
theorem G1(s:ByteArray)(h:0<s.size):(((s[0]'h).toNat:Int)==32)=(s.data.toList.head?==some 32):=by
 have e:s.data.toList.head?=some s[0]:=by rw[List.head?_eq_getElem?];have h':0<s.data.toList.length:=h;rw[cK h'];rfl
 rw[e,JT]
theorem Mx(s:ByteArray)(h:0<s.size):(((s[s.size-1]'Ω).toNat:Int)==32)=(s.data.toList.getLast?==some 32):=by
 have e:s.data.toList.getLast?=some (s[s.size-1]'Ω):=by
  rw[zku];have h':s.size-1<s.data.toList.length:=by show s.size-1<s.size;omega
  rw[show s.data.toList.length-1=s.size-1 from rfl,cK h'];rfl
 rw[e,JT]
def lF(L:List Int)(er:Int)(w:World)(e:Ending)(w':World):Prop :=
 Below w.heap.size w w'/\∃ v,OI w' w.heap.size v L/\e=.returned (.tuple #[v,.int .i64 er])
theorem lF.err{L:List Int}{er er':Int}{w w':World}(hb:Below w.heap.size w w')(h1:L=[])(h2:er=er'):lF L er w (.returned (.tuple #[.slice none 0 0,.int .i64 er'])) w':=by subst h1;subst h2;exact⟨hb,_,OI.nil _ _,rfl⟩
theorem Nm.uu{l:List UInt8}(h:40<l.length):Nm.check l=3:=by unfold Nm.check;rw[bC (by intro e;rw[e]at h;simp at h),bt h]
theorem Nm.ur{l:List UInt8}(h1:l≠[])(h2:l.length<=40)(h:Gl.decode l=none):Nm.check l=4:=by unfold Nm.check;rw[bC h1,bC Ω,h]
theorem Nm.uq{l:List UInt8}{L:List Int}(h1:l≠[])(h2:l.length<=40)(h:Gl.decode l=some L):Nm.check l=if Nm.mG L||Nm.common L then 14 else 0:=by unfold Nm.check;rw[bC h1,bC Ω,h]
theorem Nm.kF{l:List UInt8}(h:Nm.check l≠0):Nm.read l=[]:=by unfold Nm.read;rw[bC h]
theorem zgg(s:ByteArray)(m:Int)(w:World)(hs:s.size<4294967281)(hm:w.cell? ⟨1,0,none⟩=some (.int .i64 m)) :
  Calls Tryz.prog 78 #[.string s,.string ⟨#[32,32]⟩] w fun e w'=>e=.returned (.bool (Lib.contains s.data.toList [32,32]))/\w=w' :=
 (Tryz.strings_Contains s _ m w hs hm).mono fun _ _ h=>⟨h.1,h.2.symm⟩
set_option maxHeartbeats 4000000 in
theorem OG(s:ByteArray)(w:World)(ht:Gl.Tab w)(hm:pN w)(hs:s.size<=1000000000000) :
  Calls Tryz.prog 50 #[.string s] w (lF (Nm.read s.data.toList) (Nm.check s.data.toList) w):=by
 go_enter func50,ntmps50
 by_cases h0:s=⟨#[]⟩
 ·subst h0
  go_wp2_with fail
  go_ret2
  exact⟨Below.refl _ _,_,OI.nil _ _,rfl⟩
 have Ut:s.data.toList≠[]:=fun e=>h0 (by cases s with|mk d=>simp at e;subst e;rfl)
 have h0s:s.size≠0:=fun e=>Ut (sr.1 e)
 have h0b:s.toList.isEmpty=false:=by rw[zgf];simpa using Ut
 by_cases hl:40<s.size
 ·go_wp2_with fail
  go_ret2
  have e:Nm.check s.data.toList=3:=Nm.uu (by simpa using hl)
  exact lF.err (Below.refl _ _) (Nm.kF (by rw[e];decide)) e
 go_wp2_with (go_at_call 77;refine(DV _ _ ht Ω).mono ?_)
 intro e w1 hp1
 obtain⟨j8,v1,Fk,rfl⟩:=hp1.form
 have ht1:=ht.below j8 (dz _)
 have hm1:=hm.below j8 (dz _)
 have jD:s.data.toList.length<=40:=by show s.size<=40;omega
 obtain⟨o1,e1⟩:∃ o,Gl.decode s.data.toList=o:=⟨_,rfl⟩
 have E1:=Lib.hid e1
 rw[e1]at Fk
 rw[e1]
 clear e1 hp1
 cases o1 with
 |none =>
  rw[zgd]
  have wF:=Nm.ur Ut jD E1.out
  go_wp2_with fail
  go_ret2
  exact lF.err j8 (Nm.kF (by rw[wF];decide)) wF
 |some L =>
 rw[zgc]
 replace Fk:OI w1 w.heap.size v1 L:=Fk
 obtain⟨nL,hnL⟩:∃ n,L.length=n:=⟨_,rfl⟩
 obtain⟨A1,c1,rfl,_,uL,_⟩:=Fk.Qo hnL
 have wF:=Nm.uq Ut jD E1.out
 obtain⟨hv,hu⟩:=(Gl.nI _ _).1 E1.out
 have sW:=Nm.By hv
 rw[←hu]at sW
 clear hu
 obtain⟨m,Uk⟩:=hm1
 have hsz:s.size<4294967281:=Ω
 have hp0:0<s.size:=Ω
 have afk:nL<=40:=by rw[←hnL];have:=Gl.uh s.data.toList;rw[E1.out]at this;exact lW this jD
 have f0:(((s[0]'hp0).toNat:Int)==32)=(s.data.toList.head?==some 32):=G1 s hp0
 have f1:(((s[s.size-1]'Ω).toNat:Int)==32)=(s.data.toList.getLast?==some 32):=Mx s hp0
 rcases XJ (s.data.toList.head?==some 32)with g0|g0
 ·have f0':=f0.trans g0
  have hB:Nm.check s.data.toList=14:=by rw[wF,sW,g0];rfl
  clear f0 f1 wF sW
  go_wp2_with fail
  go_ret2
  exact lF.err j8 (Nm.kF (by rw[hB];decide)) hB
 have f0':=f0.trans g0
 rcases XJ (s.data.toList.getLast?==some 32)with g1|g1
 ·have f1':=f1.trans g1
  have hB:Nm.check s.data.toList=14:=by rw[wF,sW,g0,g1];rfl
  clear f0 f1 wF sW
  go_wp2_with fail
  go_ret2
  exact lF.err j8 (Nm.kF (by rw[hB];decide)) hB
 have f1':=f1.trans g1
 clear f0 f1
 rcases XJ (Lib.contains s.data.toList [32,32])with g2|g2
 ·have hB:Nm.check s.data.toList=14:=by rw[wF,sW,g0,g1,g2];rfl
  clear wF sW
  go_wp2_with (go_at_call 78;refine(zgg s m _ hsz Uk).mono ?_;first|rintro e w' rfl rfl|rintro e w' ⟨rfl,rfl⟩)
  go_ret2
  exact lF.err j8 (Nm.kF (by rw[hB];decide)) hB
 have DO:Nm.check s.data.toList=if Nm.common L then 14 else 0:=by rw[wF,sW,g0,g1,g2];rfl
 have HCK:=Lib.hid DO
 clear wF sW DO
 go_wp2_with (go_at_call 78;refine(zgg s m _ hsz Uk).mono ?_;first|rintro e w' rfl rfl|rintro e w' ⟨rfl,rfl⟩)
 go_loopw [2,5,36] (fun lv rv iv wr=>∃ i:Nat,lv=.slice A1 nL c1/\iv=.int .i64 i/\i<=nL/\Hid (∀ k,k<i->Gl.script (gi L k)=0)/\Below w1.heap.size w1 wr) (fun _ _ iv _=>nL-(intOf iv).toNat)
 case atStart=>exact⟨0,rfl,rfl,Ω,fun k hk=>absurd hk Ω,Below.refl _ _⟩
 case round =>
  obtain⟨i,rfl,rfl,hi,hall,Gv⟩:=hrel
  by_cases au:i<nL
  ·obtain⟨b1,o1,rfl,ad7,hc1⟩:=uL i Ω
   have c1:=(Gv.cell (p:=⟨b1,o1+i,none⟩) ad7).trans (hc1 i Ω)
   clear hc1
   have htr:=ht1.below Gv (dz _)
   have hbr:Below w.heap.size w wr:=j8.trans (Gv.mono j8.size)
   by_cases hsc:Gl.script (gi L i)=0
   ·have hsb:(Gl.script (gi L i) != 0)=false:=by simp[hsc]
    have HS:=Lib.hid hsc
    clear hsc
    go_wp2_with (go_at_call 79;refine(Z2 _ _ htr).mono ?_;first|rintro e w2 rfl fG|rintro e w2 ⟨rfl,fG⟩)
    go_roundw
    case rel=>exact⟨i+1,rfl,by go_num,Ω,fun k hk=>(zlo (zlw hk)).elim (hall.out k) (fun e=>by rw[e];exact HS.out),Gv.trans (fG.mono Gv.size)⟩
    case measure=>simp[intOf];omega
   ·have hsb:(Gl.script (gi L i) != 0)=true:=by simp[hsc]
    have qo:Nm.common L=false:=by unfold Nm.common;rw[zlz];have hlt':i<L.length:=Ω;refine⟨L[i],gU hlt',?_⟩;rw[←XQ hlt'];simpa using hsc
    have hK:Nm.check s.data.toList=0:=by rw[HCK.out,qo];rfl
    have hRd:Nm.read s.data.toList=L:=by unfold Nm.read;rw[bt hK,E1.out];rfl
    have HK:=Lib.hid hK
    have HR:=Lib.hid hRd
    clear hK hRd qo
    go_wp2_with (go_at_call 79;refine(Z2 _ _ htr).mono ?_;first|rintro e w2 rfl fG|rintro e w2 ⟨rfl,fG⟩)
    go_ret2
    exact⟨hbr.trans (fG.mono hbr.size),_,by rw[HR.out];exact Fk.below (Gv.trans (fG.mono Gv.size)) (dz _),by rw[HK.out];rfl⟩
  ·have qo:Nm.common L=true:=by unfold Nm.common;rw[ot];intro x hx;obtain⟨k,hk,rfl⟩:=SB.1 hx;have:=hall.out k Ω;rw[XQ hk]at this;simpa using this
   have hK:Nm.check s.data.toList=14:=by rw[HCK.out,qo];rfl
   go_wp2_with fail
   go_ret2
   exact lF.err (j8.trans (Gv.mono j8.size)) (Nm.kF (by rw[hK];decide)) hK
theorem Gb(s:ByteArray)(w:World)(ht:Gl.Tab w)(hm:pN w)(hs:s.size<=1000000000000) :
  Calls Tryz.prog 26 #[.string s] w fun e w'=>e=.returned (.int .i64 (Nm.check s.data.toList))/\Below w.heap.size w w':=by
 go_enter func26,ntmps26
 go_wp2_with (go_at_call 50;refine(OG _ _ ht hm hs).mono ?_)
 rintro e w1 ⟨j8,v1,Fk,rfl⟩
 go_wp2_with fail
 go_ret
 exact⟨rfl,j8⟩
set_option maxHeartbeats 2000000 in
theorem zdj(A:Option Addr)(c n:Nat)(L:List Int)(w:World)(hn:L.length=n)(hA:RI w A L)(hx:n<=1000000000000000) :
  Calls Tryz.prog 142 #[.slice A n c] w fun e w'=>e=.returned (.bool (Nm.common L))/\w=w':=by
 subst hn
 go_enter func142,ntmps142
 go_wp2_with fail
 go_loopw [3] (fun iv wr=>∃ i:Nat,iv=.int .i64 i/\i<=L.length/\Hid (∀ k,k<i->Gl.script (gi L k)=0)/\w=wr) (fun iv _=>L.length-(intOf iv).toNat)
 case atStart=>exact⟨0,rfl,Ω,fun k hk=>absurd hk Ω,rfl⟩
 case round =>
  obtain⟨i,rfl,hi,hall,rfl⟩:=hrel
  by_cases au:i<L.length
  ·obtain⟨b1,o1,rfl,ad7,hc1⟩:=hA i au
   have c1:=hc1 i au
   clear hc1 hA
   by_cases hsc:Gl.script (gi L i)=0
   ·have hsb:(Gl.script (gi L i) != 0)=false:=by simp[hsc]
    have HS:=Lib.hid hsc
    clear hsc
    go_wp2_with (go_at_call 174;refine(Zi _ _).mono ?_;first|rintro e w2 rfl rfl|rintro e w2 ⟨rfl,rfl⟩)
    go_roundw
    case rel=>exact⟨i+1,by go_num,Ω,fun k hk=>(zlo (zlw hk)).elim (hall.out k) (fun e=>by rw[e];exact HS.out),trivial⟩
    case measure=>simp[intOf];omega
   ·have hsb:(Gl.script (gi L i) != 0)=true:=by simp[hsc]
    have qo:Nm.common L=false:=by unfold Nm.common;rw[zlz];refine⟨L[i],gU au,?_⟩;rw[←XQ au];simpa using hsc
    have HC:=Lib.hid qo
    clear qo
    go_wp2_with (go_at_call 174;refine(Zi _ _).mono ?_;first|rintro e w2 rfl rfl|rintro e w2 ⟨rfl,rfl⟩)
    go_ret
    exact⟨Z4 HC.out.symm,rfl⟩
  ·have qo:Nm.common L=true:=by unfold Nm.common;rw[ot];intro x hx;obtain⟨k,hk,rfl⟩:=SB.1 hx;have:=hall.out k Ω;rw[XQ hk]at this;simpa using this
   have HC:=Lib.hid qo
   clear qo
   go_wp2_with fail
   go_ret
   exact⟨Z4 HC.out.symm,rfl⟩
theorem Q0{L:List Int}{k:Nat}(h:k+1<L.length)(h1:gi L k=32)(h2:gi L (k+1)=32):∀ p,Nm.GR p L=true:=by
 induction k generalizing L with
 |zero =>
  intro p
  match L,h with
  |x::y::t,_ =>
   have e1:x=32:=h1
   have e2:y=32:=h2
   simp[Nm.GR,e1,e2]
 |succ k ih =>
  intro p
  match L,h with
  |x::t,h =>
   have:=ih (L:=t) (by simpa using h) h1 h2 (x==32)
   simp[Nm.GR,this]
theorem Eu:∀{L:List Int}(p:Bool),(p=true->gi L 0≠32∨L=[])->(∀ k,k+1<L.length->¬ (gi L (k+1)=32/\gi L k=32))->Nm.GR p L=false
 |[],p,_,_=>rfl
 |x::t,p,hp,h=>by
  have h1:(p&&x==32)=false:=by
   cases p with
   |false=>rfl
   |true=>simpa using(hp rfl).elim (fun h:x≠32=>h) (fun h=>by cases h)
  have h2:Nm.GR (x==32) t=false:=by
   refine Eu _ (fun e=>?_) (fun k hk hh=>h (k+1) (by simpa using hk) hh);cases t with
   |nil=>exact Or.inr rfl
   |cons y t =>
    refine Or.inl (fun hy=>h 0 Ψ ⟨hy,?_⟩)
    show x=32
    simpa using e
  simp[Nm.GR,h1,h2]
theorem Bz{L:List Int}(h:0<L.length):Nm.mG L=((gi L 0==32)||(gi L (L.length-1)==32)||Nm.GR false L):=by
 have e1:(L.head?==some 32)=(gi L 0==32):=by rw[List.head?_eq_getElem?,cK h,XQ h];rfl
 have e2:(L.getLast?==some 32)=(gi L (L.length-1)==32):=by rw[zku,cK Ω,XQ Ω];rfl
 unfold Nm.mG;rw[e1,e2]
set_option maxHeartbeats 4000000 in
theorem YZ(A:Option Addr)(c n:Nat)(L:List Int)(w:World)(hn:L.length=n)(hA:RI w A L)(h0:0<n)(hx:n<=1000000000000000) :
  Calls Tryz.prog 141 #[.slice A n c] w fun e w'=>e=.returned (.bool (Nm.mG L))/\w=w':=by
 subst hn
 have HB:=Lib.hid (Bz h0)
 obtain⟨b1,o1,rfl,ad7,hc1⟩:=hA 0 h0
 have c0:w.cell? ⟨b1,o1,none⟩=some (.int .i64 (gi L 0)):=hc1 0 h0
 have cl:=hc1 (L.length-1) Ω
 have HC:=Lib.hid hc1
 clear hc1 hA
 go_enter func141,ntmps141
 by_cases hz:gi L 0=32
 ·have hzb:(gi L 0==32)=true:=by simp[hz]
  have HE:Hid (Nm.mG L=true):=Lib.hid (by rw[HB.out,hzb];rfl)
  clear hz
  go_wp2_with fail
  go_ret
  exact⟨Z4 HE.out.symm,rfl⟩
 have hzb:(gi L 0==32)=false:=by simp[hz]
 by_cases hy:gi L (L.length-1)=32
 ·have hyb:(gi L (L.length-1)==32)=true:=by simp[hy]
  have HE:Hid (Nm.mG L=true):=Lib.hid (by rw[HB.out,hzb,hyb];rfl)
  clear hz hy
  go_wp2_with fail
  go_ret
  exact⟨Z4 HE.out.symm,rfl⟩
 have hyb:(gi L (L.length-1)==32)=false:=by simp[hy]
 have HD:Hid (Nm.mG L=Nm.GR false L):=Lib.hid (by rw[HB.out,hzb,hyb];rfl)
 clear hz hy HB
 go_wp2_with fail
 go_loopw [3] (fun iv wr=>∃ i:Nat,iv=.int .i64 (i+1:Nat)/\i+1<=L.length/\Hid (∀ k,k<i->¬ (gi L (k+1)=32/\gi L k=32))/\w=wr) (fun iv _=>L.length-(intOf iv).toNat)
 case atStart=>exact⟨0,rfl,Ω,fun k hk=>absurd hk Ω,rfl⟩
 case round =>
  obtain⟨i,rfl,hi,hall,rfl⟩:=hrel
  have ei:((i+1:Nat):Int)=(i:Int)+1:=Ω
  rw[ei]
  clear ei
  by_cases au:i+1<L.length
  ·have c1:=HC.out (i+1) au
   have c2:=HC.out i Ω
   by_cases h1:gi L (i+1)=32
   ·have h1b:(gi L (i+1)==32)=true:=by simp[h1]
    by_cases h2:gi L i=32
    ·have h2b:(gi L i==32)=true:=by simp[h2]
     have HE:Hid (Nm.GR false L=true):=Lib.hid (Q0 au h2 h1 false)
     clear h1 h2
     go_wp2_with fail
     go_ret
     exact⟨Z4 (by rw[HD.out,HE.out]),rfl⟩
    ·have h2b:(gi L i==32)=false:=by simp[h2]
     have HN:=Lib.hid h2
     clear h1 h2
     go_wp2_with fail
     go_roundw
     case rel=>exact⟨i+1,by go_num,Ω,fun k hk=>(zlo (zlw hk)).elim (hall.out k) (fun e=>by rw[e];exact fun h=>HN.out h.2),trivial⟩
     case measure=>simp[intOf];omega
   ·have h1b:(gi L (i+1)==32)=false:=by simp[h1]
    have HN:=Lib.hid h1
    clear h1
    go_wp2_with fail
    go_roundw
    case rel=>exact⟨i+1,by go_num,Ω,fun k hk=>(zlo (zlw hk)).elim (hall.out k) (fun e=>by rw[e];exact fun h=>HN.out h.1),trivial⟩
    case measure=>simp[intOf];omega
  ·have HE:Hid (Nm.GR false L=false):=Lib.hid (Eu false (fun h=>by cases h) (fun k hk=>hall.out k Ω))
   go_wp2_with fail
   go_ret
   exact⟨Z4 (by rw[HD.out,HE.out]),rfl⟩
theorem Nm.abn{l:List UInt8}{L:List Int}(h:Gl.decode l=some L)(h0:l≠[]):0<L.length:=by
 obtain⟨_,hu⟩:=(Gl.nI l L).1 h;cases L with
 |nil=>exact absurd hu (by simpa[Gl.units]using h0)
 |cons x t=>simp
set_option maxHeartbeats 4000000 in
theorem F4(s:ByteArray)(w:World)(hs:s.size<=1000000000000) :
  Calls Tryz.prog 97 #[.string s] w fun e w'=>e=.returned (.int .i64 (Nm.check s.data.toList))/\Below w.heap.size w w':=by
 go_enter func97,ntmps97
 by_cases h0:s=⟨#[]⟩
 ·subst h0
  go_wp2_with fail
  go_ret
  exact⟨rfl,Below.refl _ _⟩
 have Ut:s.data.toList≠[]:=fun e=>h0 (by cases s with|mk d=>simp at e;subst e;rfl)
 have h0b:s.toList.isEmpty=false:=by rw[zgf];simpa using Ut
 by_cases hl:40<s.size
 ·go_wp2_with fail
  go_ret
  exact⟨yD (Nm.uu (by simpa using hl)).symm,Below.refl _ _⟩
 go_wp2_with (go_at_call 140;refine(CQ _ _ Ω).mono ?_)
 intro e w1 hp1
 obtain⟨j8,v1,Fk,rfl⟩:=hp1.form
 have jD:s.data.toList.length<=40:=by show s.size<=40;omega
 obtain⟨o1,e1⟩:∃ o,Gl.decode s.data.toList=o:=⟨_,rfl⟩
 have E1:=Lib.hid e1
 rw[e1]at Fk
 rw[e1]
 clear e1 hp1
 cases o1 with
 |none =>
  rw[zgd]
  have wF:=Nm.ur Ut jD E1.out
  go_wp2_with fail
  go_ret
  exact⟨yD wF.symm,j8⟩
 |some L =>
 rw[zgc]
 replace Fk:OI w1 w.heap.size v1 L:=Fk
 have afk:L.length<=40:=by have:=Gl.uh s.data.toList;rw[E1.out]at this;exact lW this jD
 have hpos:=Nm.abn E1.out Ut
 have wF:=Nm.uq Ut jD E1.out
 obtain⟨nL,hnL⟩:∃ n,L.length=n:=⟨_,rfl⟩
 rw[hnL]at afk hpos
 obtain⟨A1,c1,rfl,_,uL,_⟩:=Fk.Qo hnL
 have hne:((nL:Int)==0)=false:=by simp;omega
 have HN:=Lib.hid hnL
 clear hnL
 rcases XJ (Nm.mG L)with g|g
 ·have DO:Nm.check s.data.toList=14:=by rw[wF,g];rfl
  clear wF
  go_wp2_with (go_at_call 141;refine(YZ _ _ nL L _ HN.out uL Ω Ω).mono ?_;first|rintro e w' rfl rfl|rintro e w' ⟨rfl,rfl⟩)
  go_ret
  exact⟨yD DO.symm,j8⟩
 rcases XJ (Nm.common L)with g2|g2
 ·have DO:Nm.check s.data.toList=14:=by rw[wF,g,g2];rfl
  clear wF
  go_wp2_with (first|(go_at_call 141;refine(YZ _ _ nL L _ HN.out uL Ω Ω).mono ?_;first|rintro e w' rfl rfl|rintro e w' ⟨rfl,rfl⟩)|(go_at_call 142;refine(zdj _ _ nL L _ HN.out uL Ω).mono ?_;first|rintro e w' rfl rfl|rintro e w' ⟨rfl,rfl⟩))
  go_ret
  exact⟨yD DO.symm,j8⟩
 have DO:Nm.check s.data.toList=0:=by rw[wF,g,g2];rfl
 clear wF
 go_wp2_with (first|(go_at_call 141;refine(YZ _ _ nL L _ HN.out uL Ω Ω).mono ?_;first|rintro e w' rfl rfl|rintro e w' ⟨rfl,rfl⟩)|(go_at_call 142;refine(zdj _ _ nL L _ HN.out uL Ω).mono ?_;first|rintro e w' rfl rfl|rintro e w' ⟨rfl,rfl⟩))
 go_ret
 exact⟨yD DO.symm,j8⟩
end Go.Proofs.YtdacpmgnhkmnkaaGreatDoor
namespace Go.Proofs
open Go.Shelf
def Tryz.vI:Go.Shelf.Ren:=⟨fun|6=>152|15=>146|14=>188|28=>184|29=>185|20=>221|21=>222|22=>223|23=>224|24=>225|25=>226|26=>227|27=>228|46=>238|47=>215|48=>216|49=>239|50=>240|57=>243|n=>n,fun|22=>24|24=>3|25=>137|3=>3|39=>177|0=>0|53=>202|55=>204|4=>4|46=>195|45=>194|50=>199|5=>5|9=>9|66=>219|70=>223|76=>235|77=>236|n=>n,fun|n=>n⟩
theorem Tryz.aci:Go.Proofs.SlLaysF.n6 Tryz.prog Tryz.vI:={
 mixed:=by kernel_rfl
 f6:=⟨Tryz.f152.name,(by decide),Tryz.func152.trans (congrArg some (by kernel_rfl))⟩
 f14:=⟨Tryz.f188.name,(by decide),Tryz.func188.trans (congrArg some (by kernel_rfl))⟩
 f15:=Tryz.func146.trans (congrArg some (by kernel_rfl))
 f20:=⟨Tryz.f221.name,(by decide),Tryz.func221.trans (congrArg some (by kernel_rfl))⟩
 f21:=⟨Tryz.f222.name,(by decide),Tryz.func222.trans (congrArg some (by kernel_rfl))⟩
 f22:=⟨Tryz.f223.name,(by decide),Tryz.func223.trans (congrArg some (by kernel_rfl))⟩
 f23:=⟨Tryz.f224.name,(by decide),Tryz.func224.trans (congrArg some (by kernel_rfl))⟩
 f24:=⟨Tryz.f225.name,(by decide),Tryz.func225.trans (congrArg some (by kernel_rfl))⟩
 f25:=⟨Tryz.f226.name,(by decide),Tryz.func226.trans (congrArg some (by kernel_rfl))⟩
 f26:=⟨Tryz.f227.name,(by decide),Tryz.func227.trans (congrArg some (by kernel_rfl))⟩
 f27:=⟨Tryz.f228.name,(by decide),Tryz.func228.trans (congrArg some (by kernel_rfl))⟩
 f28:=Tryz.func184.trans (congrArg some (by kernel_rfl))
 f29:=Tryz.func185.trans (congrArg some (by kernel_rfl))
 f46:=⟨Tryz.f238.name,(by decide),Tryz.func238.trans (congrArg some (by kernel_rfl))⟩
 f47:=Tryz.func215.trans (congrArg some (by kernel_rfl))
 f48:=Tryz.func216.trans (congrArg some (by kernel_rfl))
 f49:=⟨Tryz.f239.name,(by decide),Tryz.func239.trans (congrArg some (by kernel_rfl))⟩
 f50:=⟨Tryz.f240.name,(by decide),Tryz.func240.trans (congrArg some (by kernel_rfl))⟩
 f57:=⟨Tryz.f243.name,(by decide),Tryz.func243.trans (congrArg some (by kernel_rfl))⟩
 t0:=underlying0
 a0:=isAgg0
 z0:=sizeOf0
 v0:=zeroValue0
 t3:=underlying3
 a3:=isAgg3
 z3:=sizeOf3
 v3:=zeroValue3
 t4:=underlying4
 a4:=isAgg4
 z4:=sizeOf4
 v4:=zeroValue4
 t5:=underlying5
 a5:=isAgg5
 z5:=sizeOf5
 v5:=zeroValue5
 t9:=underlying9
 a9:=isAgg9
 z9:=sizeOf9
 v9:=zeroValue9
 t22:=underlying24
 a22:=isAgg24
 z22:=sizeOf24
 v22:=zeroValue24
 a24:=isAgg3
 z24:=sizeOf3
 t25:=underlying137
 a25:=isAgg137
 z25:=sizeOf137
 v25:=zeroValue137
 t39:=underlying177
 a39:=isAgg177
 z39:=sizeOf177
 v39:=zeroValue177
 t45:=underlying194
 a45:=isAgg194
 z45:=sizeOf194
 v45:=zeroValue194
 t46:=underlying195
 a46:=isAgg195
 z46:=sizeOf195
 v46:=zeroValue195
 t50:=underlying199
 a50:=isAgg199
 z50:=sizeOf199
 v50:=zeroValue199
 t53:=underlying202
 a53:=isAgg202
 z53:=sizeOf202
 v53:=zeroValue202
 t55:=underlying204
 a55:=isAgg204
 z55:=sizeOf204
 v55:=zeroValue204
 t66:=underlying219
 a66:=isAgg219
 z66:=sizeOf219
 v66:=zeroValue219
 t70:=underlying223
 a70:=isAgg223
 z70:=sizeOf223
 v70:=zeroValue223
 t76:=underlying235
 a76:=isAgg235
 z76:=sizeOf235
 v76:=zeroValue235
 t77:=underlying236
 a77:=isAgg236
 z77:=sizeOf236
 v77:=zeroValue236 }
def Tryz.vH:Go.Shelf.Ren:=⟨fun|6=>104|15=>146|14=>145|28=>184|29=>185|20=>176|21=>177|22=>178|23=>179|24=>180|25=>181|26=>182|27=>183|46=>214|47=>215|48=>216|49=>217|50=>218|57=>237|n=>n,fun|22=>129|24=>136|25=>139|3=>3|39=>177|0=>0|53=>202|55=>204|4=>4|46=>195|45=>194|50=>199|5=>5|9=>9|66=>219|70=>223|76=>235|77=>236|n=>n,fun|n=>n⟩
theorem Tryz.ach:Go.Proofs.SlLaysF0.n6 Tryz.prog Tryz.vH:={
 mixed:=by kernel_rfl
 f6:=⟨Tryz.f104.name,(by decide),Tryz.func104.trans (congrArg some (by kernel_rfl))⟩
 f14:=⟨Tryz.f145.name,(by decide),Tryz.func145.trans (congrArg some (by kernel_rfl))⟩
 f15:=Tryz.func146.trans (congrArg some (by kernel_rfl))
 f20:=⟨Tryz.f176.name,(by decide),Tryz.func176.trans (congrArg some (by kernel_rfl))⟩
 f21:=⟨Tryz.f177.name,(by decide),Tryz.func177.trans (congrArg some (by kernel_rfl))⟩
 f22:=⟨Tryz.f178.name,(by decide),Tryz.func178.trans (congrArg some (by kernel_rfl))⟩
 f23:=⟨Tryz.f179.name,(by decide),Tryz.func179.trans (congrArg some (by kernel_rfl))⟩
 f24:=⟨Tryz.f180.name,(by decide),Tryz.func180.trans (congrArg some (by kernel_rfl))⟩
 f25:=⟨Tryz.f181.name,(by decide),Tryz.func181.trans (congrArg some (by kernel_rfl))⟩
 f26:=⟨Tryz.f182.name,(by decide),Tryz.func182.trans (congrArg some (by kernel_rfl))⟩
 f27:=⟨Tryz.f183.name,(by decide),Tryz.func183.trans (congrArg some (by kernel_rfl))⟩
 f28:=Tryz.func184.trans (congrArg some (by kernel_rfl))
 f29:=Tryz.func185.trans (congrArg some (by kernel_rfl))
 f46:=⟨Tryz.f214.name,(by decide),Tryz.func214.trans (congrArg some (by kernel_rfl))⟩
 f47:=Tryz.func215.trans (congrArg some (by kernel_rfl))
 f48:=Tryz.func216.trans (congrArg some (by kernel_rfl))
 f49:=⟨Tryz.f217.name,(by decide),Tryz.func217.trans (congrArg some (by kernel_rfl))⟩
 f50:=⟨Tryz.f218.name,(by decide),Tryz.func218.trans (congrArg some (by kernel_rfl))⟩
 f57:=⟨Tryz.f237.name,(by decide),Tryz.func237.trans (congrArg some (by kernel_rfl))⟩
 t0:=underlying0
 a0:=isAgg0
 z0:=sizeOf0
 v0:=zeroValue0
 t3:=underlying3
 a3:=isAgg3
 z3:=sizeOf3
 v3:=zeroValue3
 t4:=underlying4
 a4:=isAgg4
 z4:=sizeOf4
 v4:=zeroValue4
 t5:=underlying5
 a5:=isAgg5
 z5:=sizeOf5
 v5:=zeroValue5
 t9:=underlying9
 a9:=isAgg9
 z9:=sizeOf9
 v9:=zeroValue9
 t22:=underlying129
 a22:=isAgg129
 z22:=sizeOf129
 v22:=zeroValue129
 t25:=underlying139
 a25:=isAgg139
 z25:=sizeOf139
 v25:=zeroValue139
 t39:=underlying177
 a39:=isAgg177
 z39:=sizeOf177
 v39:=zeroValue177
 t45:=underlying194
 a45:=isAgg194
 z45:=sizeOf194
 v45:=zeroValue194
 t46:=underlying195
 a46:=isAgg195
 z46:=sizeOf195
 v46:=zeroValue195
 t50:=underlying199
 a50:=isAgg199
 z50:=sizeOf199
 v50:=zeroValue199
 t53:=underlying202
 a53:=isAgg202
 z53:=sizeOf202
 v53:=zeroValue202
 t55:=underlying204
 a55:=isAgg204
 z55:=sizeOf204
 v55:=zeroValue204
 t66:=underlying219
 a66:=isAgg219
 z66:=sizeOf219
 v66:=zeroValue219
 t70:=underlying223
 a70:=isAgg223
 z70:=sizeOf223
 v70:=zeroValue223
 t76:=underlying235
 a76:=isAgg235
 z76:=sizeOf235
 v76:=zeroValue235
 t77:=underlying236
 a77:=isAgg236
 z77:=sizeOf236
 v77:=zeroValue236 }
def Tryz.vJ:Go.Shelf.Ren:=⟨fun|189=>117|125=>146|257=>155|128=>184|129=>185|294=>190|295=>191|296=>192|297=>193|298=>194|299=>195|216=>196|300=>197|301=>198|328=>229|329=>215|330=>216|331=>230|332=>231|215=>147|343=>241|n=>n,fun|28=>24|3=>3|46=>177|0=>0|51=>202|53=>204|4=>4|183=>195|182=>194|131=>199|5=>5|9=>9|218=>219|222=>223|228=>235|229=>236|n=>n,fun|n=>n⟩
theorem Tryz.acj:Go.Proofs.Lays.n189 Tryz.prog Tryz.vJ:={
 mixed:=by kernel_rfl
 f125:=Tryz.func146.trans (congrArg some (by kernel_rfl))
 f128:=Tryz.func184.trans (congrArg some (by kernel_rfl))
 f129:=Tryz.func185.trans (congrArg some (by kernel_rfl))
 f189:=Tryz.func117.trans (congrArg some (by kernel_rfl))
 f215:=Tryz.func147.trans (congrArg some (by kernel_rfl))
 f216:=Tryz.func196.trans (congrArg some (by kernel_rfl))
 f257:=Tryz.func155.trans (congrArg some (by kernel_rfl))
 f294:=Tryz.func190.trans (congrArg some (by kernel_rfl))
 f295:=Tryz.func191.trans (congrArg some (by kernel_rfl))
 f296:=Tryz.func192.trans (congrArg some (by kernel_rfl))
 f297:=Tryz.func193.trans (congrArg some (by kernel_rfl))
 f298:=Tryz.func194.trans (congrArg some (by kernel_rfl))
 f299:=Tryz.func195.trans (congrArg some (by kernel_rfl))
 f300:=Tryz.func197.trans (congrArg some (by kernel_rfl))
 f301:=Tryz.func198.trans (congrArg some (by kernel_rfl))
 f328:=Tryz.func229.trans (congrArg some (by kernel_rfl))
 f329:=Tryz.func215.trans (congrArg some (by kernel_rfl))
 f330:=Tryz.func216.trans (congrArg some (by kernel_rfl))
 f331:=Tryz.func230.trans (congrArg some (by kernel_rfl))
 f332:=Tryz.func231.trans (congrArg some (by kernel_rfl))
 f343:=Tryz.func241.trans (congrArg some (by kernel_rfl))
 t0:=underlying0
 a0:=isAgg0
 z0:=sizeOf0
 v0:=zeroValue0
 t3:=underlying3
 a3:=isAgg3
 z3:=sizeOf3
 v3:=zeroValue3
 t4:=underlying4
 a4:=isAgg4
 z4:=sizeOf4
 v4:=zeroValue4
 t5:=underlying5
 a5:=isAgg5
 z5:=sizeOf5
 v5:=zeroValue5
 t9:=underlying9
 a9:=isAgg9
 z9:=sizeOf9
 v9:=zeroValue9
 t28:=underlying24
 a28:=isAgg24
 z28:=sizeOf24
 v28:=zeroValue24
 t46:=underlying177
 a46:=isAgg177
 z46:=sizeOf177
 v46:=zeroValue177
 t51:=underlying202
 a51:=isAgg202
 z51:=sizeOf202
 v51:=zeroValue202
 t53:=underlying204
 a53:=isAgg204
 z53:=sizeOf204
 v53:=zeroValue204
 t131:=underlying199
 a131:=isAgg199
 z131:=sizeOf199
 v131:=zeroValue199
 t182:=underlying194
 a182:=isAgg194
 z182:=sizeOf194
 v182:=zeroValue194
 t183:=underlying195
 a183:=isAgg195
 z183:=sizeOf195
 v183:=zeroValue195
 t218:=underlying219
 a218:=isAgg219
 z218:=sizeOf219
 v218:=zeroValue219
 t222:=underlying223
 a222:=isAgg223
 z222:=sizeOf223
 v222:=zeroValue223
 t228:=underlying235
 a228:=isAgg235
 z228:=sizeOf235
 v228:=zeroValue235
 t229:=underlying236
 a229:=isAgg236
 z229:=sizeOf236
 v229:=zeroValue236 }
end Go.Proofs
namespace Go.Proofs.YtdacpmgnhkmnkaaGreatDoor
open Go
def Ms(P:Program)(l:List (FuncId×jy)):List (Option jy):=List.rec (motive:=fun _=>List (Option jy)) [] (fun p _ r=>(bif Nat.blt p.2.mode 4 then(P.funcs[p.1]?).bind fun fn=>cFn P fn p.2.mode else some p.2)::r) l
theorem zb8{P:Program}:∀{l:List (FuncId×jy)},Ms P l=l.map (fun p=>some p.2)->∀ p∈l,Nat.blt p.2.mode 4=true->∃ fn,P.funcs[p.1]?=some fn/\cFn P fn p.2.mode=some p.2
 |[],_,p,h=>by cases h
 |q::l,h,p,hp=>fun h4=>by
  have h:(bif Nat.blt q.2.mode 4 then(P.funcs[q.1]?).bind fun fn=>cFn P fn q.2.mode else some q.2)::Ms P l=some q.2::l.map (fun p=>some p.2):=h
  simp only[znq]at h;rcases fF.1 hp with rfl|hp
  ·rw[h4]at h;cases hf:P.funcs[p.1]? with
   |none=>rw[hf]at h;cases h.1
   |some fn=>rw[hf]at h;exact⟨fn,rfl,h.1⟩
  ·exact zb8 h.2 p hp h4
theorem tc0:Ms Tryz.prog tab0.all=tab0.all.map (fun p=>some p.2):=by kernel_rfl
theorem tc1:Ms Tryz.prog tab1.all=tab1.all.map (fun p=>some p.2):=by kernel_rfl
theorem tc2:Ms Tryz.prog tab2.all=tab2.all.map (fun p=>some p.2):=by kernel_rfl
theorem tc3:Ms Tryz.prog tab3.all=tab3.all.map (fun p=>some p.2):=by kernel_rfl
theorem Ta:KJ.all.all (fun p=>Nat.blt p.2.mode 4||Nat.beq p.1 104||Nat.beq p.1 117||Nat.beq p.1 152)=true:=by kernel_rfl
theorem FI:uA Tryz.prog 104 i104:=⟨⟨f104,func104,Δ,rfl⟩,M6 rfl,Tryz.vH,.inr (.inl ⟨rfl,Δ,rfl,Tryz.ach,isAgg136,sizeOf136⟩)⟩
theorem FH:uA Tryz.prog 117 i117:=⟨⟨f117,func117,Δ,rfl⟩,M6 rfl,Tryz.vJ,.inr (.inr ⟨rfl,rfl,rfl,Tryz.acj⟩)⟩
theorem FG:uA Tryz.prog 152 i152:=⟨⟨f152,func152,Δ,rfl⟩,M6 rfl,Tryz.vI,.inl ⟨rfl,rfl,rfl,Tryz.aci⟩⟩
theorem xQ:Kc Tryz.prog aR:=by
 intro f i h;have hm0:(f,i)∈KJ.all:=FT.mem (t:=KJ) h;have hs:=ot.1 Ta _ hm0;cases h4:Nat.blt i.mode 4 with
 |true =>
  refine .inl ⟨M6 h4,?_⟩
  have hm:(f,i)∈(tab0.all++tab1.all)++(tab2.all++tab3.all):=hm0
  rw[og,og,og]at hm
  rcases hm with(hm|hm)|hm|hm
  ·exact zb8 tc0 _ hm h4
  ·exact zb8 tc1 _ hm h4
  ·exact zb8 tc2 _ hm h4
  ·exact zb8 tc3 _ hm h4
 |false =>
  refine .inr ?_
  simp only[h4,iS,nu]at hs
  rcases hs with(e|e)|e
  ·obtain rfl:=Kr e
   obtain rfl:i104=i:=kT (show some i104=some i from h)
   exact FI
  ·obtain rfl:=Kr e
   obtain rfl:i117=i:=kT (show some i117=some i from h)
   exact FH
  ·obtain rfl:=Kr e
   obtain rfl:i152=i:=kT (show some i152=some i from h)
   exact FG
theorem Tb:KJ.all.all (fun p=>Ey p.2.body)=true:=by kernel_rfl
theorem X4:R4 aR:=fun f i h=>ot.1 Tb (f,i) (FT.mem (t:=KJ) h)
end Go.Proofs.YtdacpmgnhkmnkaaGreatDoor
namespace Go.Proofs.YtdacpmgnhkmnkaaGreatDoor
open Go Go.RowKit
def S0:cZ:=fun f args=>bif Nat.beq f 26||Nat.beq f 97 then (match args with
 |[.str s]=>bif Nat.ble s.size 1000000000000 then some (.int .i64 (Nm.check s.data.toList))else none
 | _=>none) else none
def IL:IV:=.agg [.slC [.int .i64 1,.int .i64 0,.int .i64 0] 1 3 true,.slC [.int .i64 1,.int .i64 1,.int .i64 1,.slC [.int .i64 10,.int .i64 0,.int .i64 10,.int .i64 10,.int .i64 0,.int .i64 10] 3 2 true,.int .i64 1,.int .i64 0] 1 6 true,.slC [.int .i64 1] 1 1 true]
def S1:cZ:=Fg 36 [IL] (.int .i64 0) S0
def S2:cZ:=Fg 20 [IL] (.int .i64 0) S1
def S3:cZ:=Fg 6 [] (.bool true) S2
def SL:cZ:=Fg 6 [] (.bool true) S0
theorem FQ:aM aR S0 400 0 (fun _=>[]) [] [] 0 36 [IL]=some (.r,.int .i64 0,[]):=by kernel_rfl
theorem FR:aM aR S1 400 0 (fun _=>[]) [] [] 0 20 [IL]=some (.r,.int .i64 0,[]):=by kernel_rfl
theorem K3:aM aR S2 400 0 (fun _=>[]) [] [] 0 6 []=some (.r,.bool true,[]):=by kernel_rfl
theorem y8:Tryz.prog.follows .mixedOrders=true:=by kernel_rfl
theorem aez{W0:World}(ht:Gl.Tab W0)(hm:pN W0):uz Tryz.prog W0.heap.size W0 S0:=by
 intro f args v h;unfold S0 at h;cases hf:(Nat.beq f 26||Nat.beq f 97)
 ·rw[hf]at h;cases h
 ·rw[hf,bT]at h;split at h
  ·rename_i s;cases hs:Nat.ble s.size 1000000000000
   ·rw[hs]at h;cases h
   ·rw[hs,bT]at h;cases h;rcases nu _ _▸hf with hf|hf
    ·obtain rfl:=Kr hf;refine⟨⟨f26,func26,by decide +kernel,by rfl⟩,fun β W args' hb PJ=>?_⟩;obtain⟨y,rfl⟩:∃ y,args'=[y]:=by
      cases args' with
      |nil=>have:=PJ.1;simp at this
      |cons y t=>cases t with
       |nil=>exact⟨y,rfl⟩
       |cons _ _=>have:=PJ.1;simp at this
     have hy:=PJ.2 0 _ _ rfl rfl;obtain rfl:=HO hy;refine(Gb s W (ht.below hb.below (dz _)) (hm.below hb.below (dz _)) (M6 hs)).mono ?_;rintro e w' ⟨rfl,jQ⟩;exact⟨_,rfl,jQ,.int _ _⟩
    ·obtain rfl:=Kr hf;refine⟨⟨f97,func97,by decide +kernel,by rfl⟩,fun β W args' hb PJ=>?_⟩;obtain⟨y,rfl⟩:∃ y,args'=[y]:=by
      cases args' with
      |nil=>have:=PJ.1;simp at this
      |cons y t=>cases t with
       |nil=>exact⟨y,rfl⟩
       |cons _ _=>have:=PJ.1;simp at this
     have hy:=PJ.2 0 _ _ rfl rfl;obtain rfl:=HO hy;refine(F4 s W (M6 hs)).mono ?_;rintro e w' ⟨rfl,jQ⟩;exact⟨_,rfl,jQ,.int _ _⟩
  ·cases h
theorem agc{W0:World}(ht:Gl.Tab W0)(hm:pN W0):uz Tryz.prog W0.heap.size W0 S3 :=
 FF y8 xQ (FF y8 xQ (FF y8 xQ (aez ht hm) FQ rfl rfl) FR rfl rfl) K3 rfl rfl
theorem agb{W0:World}(ht:Gl.Tab W0)(hm:pN W0):uz Tryz.prog W0.heap.size W0 SL:=by
 intro f args v h;cases hc:(Nat.beq f 6&&lV args [])
 ·refine aez ht hm f args v ?_;unfold SL Fg at h;rw[hc]at h;exact h
 ·refine agc ht hm f args v ?_;unfold SL Fg at h;unfold S3 Fg;rw[hc]at h ⊢;exact h
theorem zd8{f:FuncId}(h:f≠26/\f≠97)(args:List IV):S0 f args=none:=by
 unfold S0;cases hb:(Nat.beq f 26||Nat.beq f 97)
 ·rfl
 ·rcases nu _ _▸hb with hb|hb
  ·exact absurd (Kr hb) h.1
  ·exact absurd (Kr hb) h.2
theorem xV{f:FuncId}(h1:f≠26/\f≠97)(h2:f≠6)(args:List IV):SL f args=none:=by
 unfold SL Fg;cases hb:Nat.beq f 6
 ·rw[ew,bL,zd8 h1]
 ·exact absurd (Kr hb) h2
theorem ae8:bN SL:=fun f args h1 h2 _ _=>xV h1 h2 args
theorem Rs:SL 6 []=some (.bool true):=by kernel_rfl
theorem X6:R5 SL:=by
 intro k f args;cases h2:Nat.beq f 6
 ·have e:∀ args,SL f args=S0 f args:=fun args=>by unfold SL Fg;rw[h2,ew,bL]
  rw[e,e];cases h1:(Nat.beq f 26||Nat.beq f 97)
  ·have hne:f≠26/\f≠97:=⟨fun h=>by
    rw[h]at h1;exact absurd h1 Δ,fun h=>by
    rw[h]at h1;exact absurd h1 Δ⟩
   rw[zd8 hne,zd8 hne];rfl
  ·unfold S0;rw[h1,bT,bT];match args with
   |[]=>rfl
   |[.str s] =>
    simp only[nK,BY,sh]
    cases Nat.ble s.size 1000000000000<;>simp[sh]
   |[.ptrM ..]=>simp[sh]
   |[.ptrC ..]=>simp[sh]
   |[.slM ..]=>simp[sh]
   |[.slC ..]=>simp[sh]
   |[.mapM ..]=>simp[sh]
   |[.eF ..]=>simp[sh]
   |[.fn ..]=>simp[sh]
   |[.agg ..]=>simp[sh]
   |[.tuple ..]=>simp[sh]
   |[.bool ..]=>simp[sh]
   |[.int ..]=>simp[sh]
   |[.eo]=>simp[sh]
   |[.nilsl]=>simp[sh]
   |[.eT]=>simp[sh]
   |[.l9]=>simp[sh]
   |x::y::z=>simp
 ·obtain rfl:=Kr h2;cases args with
  |nil=>simp[Rs,sh]
  |cons x xs =>
   have e:∀(y:IV)(ys:List IV),SL 6 (y::ys)=none:=fun y ys=>by unfold SL Fg;simp only[lV,l8,bL];exact zd8 Δ _
   rw[nK,e,e]
   rfl
theorem NS:∀{a:ByteArray},0<a.size->(a.toList==(bs []).toList)=false
 |⟨⟨l⟩⟩,h=>by
  rw[show(ByteArray.mk { toList:=l })=ByteArray.mk l.toArray from rfl,ByteArray.toList_mk];have hl:(ByteArray.mk { toList:=l }).size=l.length:=rfl;rw[hl]at h;have e:(bs []).toList=[]:=by rw[show bs []=ByteArray.mk ([]:List UInt8).toArray from rfl,ByteArray.toList_mk]
  rw[e];cases l with
  |nil=>simp at h
  |cons a b=>rfl
theorem nmL:MU SL fun s=>Nm.check s.data.toList:=fun s=>by
 cases hs:Nat.ble s.1.size 1000000000000
 ·have hbig:1000000000000<s.1.size:=by rw[←sZ,Nat.ble_eq]at hs;omega
  have hnm:Nm.check s.1.data.toList=3:=by have hl:s.1.data.toList.length=s.1.size:=rfl;unfold Nm.check;rw[bC (fun h=>by rw[h]at hl;simp at hl;omega),bt Ω]
  have hnone:SL 26 [.str s.1]=none:=by unfold SL Fg S0;simp only[show Nat.beq 26 6=false from rfl,show Nat.beq 26 26=true from rfl,iY,ew,bL,bT,hs]
  show aP SL 20 26 [.str s.1] (.int .i64 (Nm.check s.1.data.toList));rw[hnm];have ag7:s.1.size<9223372036854775808:=zn1 s.2 Δ;have hne:(s.1.toList==(bs []).toList)=false:=NS Ω;have hgt:decide ((s.1.size:Int)>40)=true:=by rw[decide_eq_true_iff];omega
  have hR:∀ m,4<=m->∀ d ah aK aa id,aM aR SL m d ah aK aa id 50 [.str s.1]=some (.r,.tuple [.nilsl,.int .i64 3],aa):=by refine zbq (i:=i50) (ns ae8) rfl rfl (lb rfl) 3 fun m hm d ah t af=>?_;obtain⟨m,rfl⟩:=me m 2;simp only[slotsOf,zb,zc,i50]at af;simp only[i50,V0,seval,af,oy,hne,hgt,jL,bP,rO,Cc,tC,uG];exact⟨_,rfl,rfl⟩
  refine ZF (i:=i26) hnone rfl rfl (lb rfl) 19 Ω zn fun m hm d ah t af=>?_;simp only[slotsOf,zb,zc,i26]at af;have c0:=hR m Ω;simp only[i26,V0,seval,af,c0]
 ·intro m hm d ah aK aa id;refine zcr ?_ m Ω d ah aK aa id;unfold SL Fg S0;simp only[show Nat.beq 26 6=false from rfl,show Nat.beq 26 26=true from rfl,iY,ew,bL,bT,hs]
theorem nm7(s:{ s:ByteArray // s.size<=maxLen }):∃ N,aP SL N 97 [.str s.1] (.int .i64 (Nm.check s.1.data.toList)):=by
 refine⟨20,?_⟩;cases hs:Nat.ble s.1.size 1000000000000
 ·have hbig:1000000000000<s.1.size:=by rw[←sZ,Nat.ble_eq]at hs;omega
  have hnm:Nm.check s.1.data.toList=3:=by have hl:s.1.data.toList.length=s.1.size:=rfl;unfold Nm.check;rw[bC (fun h=>by rw[h]at hl;simp at hl;omega),bt Ω]
  have hnone:SL 97 [.str s.1]=none:=by unfold SL Fg S0;simp only[show Nat.beq 97 6=false from rfl,show Nat.beq 97 97=true from rfl,Kq,ew,bL,bT,hs]
  rw[hnm];have ag7:s.1.size<9223372036854775808:=zn1 s.2 Δ;have hne:(s.1.toList==(bs []).toList)=false:=NS Ω;have hgt:decide ((s.1.size:Int)>40)=true:=by rw[decide_eq_true_iff];omega
  refine ZF (i:=i97) hnone rfl rfl (lb rfl) 19 Ω zn fun m hm d ah t af=>?_;simp only[slotsOf,zb,zc,i97]at af;simp only[i97,V0,seval,af,oy,hne,hgt,jL]
 ·intro m hm d ah aK aa id;refine zcr ?_ m Ω d ah aK aa id;unfold SL Fg S0;simp only[show Nat.beq 97 6=false from rfl,show Nat.beq 97 97=true from rfl,Kq,ew,bL,bT,hs]
theorem OF(nm:ByteArray->Int)(z:Int)(s:Sv):Iu nm z s=rC nm z s:=by unfold Iu rC;rw[K5]
theorem UG{s:Sv}(h:Eb s=true):s.pl.ns.l.length<=200:=by simp only[Eb,L7,gJ,decide_eq_true_iff]at h;exact h.1.1
section
variable {S:cZ}
theorem Ec(hT:R4 aR)(hSc:R5 S)(hS:bN S)(Fl:∀ args,S 36 args=none)(hSg:∀ args,S 20 args=none){nm:ByteArray->Int}(hN:MU S nm)(h7:∀ x:{ s:ByteArray // s.size<=maxLen },∃ N,aP S N 97 [.str x.1] (.int .i64 (nm x.1)))(s:Sv)(hf:Eb s=true):∃ e,(∃ N,aP S N 7 [.agg s.c] (.int .i64 e))/\∃ N,aP S N 8 [.agg s.c] (.int .i64 e):=by obtain⟨v1,v2,v3,v4⟩:=L6 hf;have n1:=UG hf;obtain⟨e,_,⟨N1,h1⟩,h2⟩:=CN hS Fl hSg s.pl n1 v2 v1;refine⟨rC nm e s,Bg hS hN s v1 h1,?_⟩;rw[←OF];exact Hl hS nm s v1 Ω (fun f hff=>by have:=v4 f hff;omega) (fun f _=>h7 f.name) e h2
theorem Gi(hT:R4 aR)(hSc:R5 S)(hS:bN S)(Fl:∀ args,S 36 args=none)(hSg:∀ args,S 20 args=none){nm:ByteArray->Int}(hN:MU S nm)(h7:∀ x:{ s:ByteArray // s.size<=maxLen },∃ N,aP S N 97 [.str x.1] (.int .i64 (nm x.1)))(hA:S 6 []=some (.bool true))(s:Sv):∃ N,aP S N 3 [.agg s.c] (.bool true):=by
 obtain⟨N1,vf⟩:=Gx hS s;have haw:=fun m (hm:1<=m) d ah aK aa i=>zcr (F:=aR) hA m hm d ah aK aa i;cases hf1:Eb s
 ·rw[hf1]at vf;refine⟨N1+4,gv i3 hS (N1+3) zj fun m hm d ah tt af=>?_⟩;simp only[slotsOf,zb,zc,i3,Sv.c]at af;have c0:=vf m Ω;have ca:=haw m Ω;simp only[Sv.c,zg]at c0;simp only[i3,V0,Xa,Xb,Xe,af,c0,ca]
 ·obtain⟨e,⟨N2,h2⟩,N3,h3⟩:=Ec hT hSc hS Fl hSg hN h7 s hf1;rw[hf1]at vf;refine⟨N1+N2+N3+5,gv i3 hS (N1+N2+N3+4) zj fun m hm d ah tt af=>?_⟩;simp only[slotsOf,zb,zc,i3,Sv.c]at af;have c0:=vf m Ω;have c1:=h2 m Ω;have c2:=h3 m Ω;have ca:=haw m Ω;simp only[Sv.c,zg]at c0 c1 c2;have eA:(e==e)=true:=by simp
  simp only[i3,V0,Xa,Xb,Xe, *]
end
theorem checks_call(W:World)(ht:Gl.Tab W)(hm:pN W)(s:Sv)(v:Value)(hv:VR fK W (.agg s.c) v):Calls Tryz.prog 3 #[v] W fun e W'=>e=.returned (.bool true)/\Below W.heap.size W W':=by obtain⟨N,hN⟩:=Gi X4 X6 ae8 (fun args=>xV Δ Δ args) (fun args=>xV Δ Δ args) nmL nm7 Rs s;have h:=K1 y8 xQ (W:=W) (agb ht hm) (hN N (dz _) 0 (fun _=>[]) [] [] 0) (args':=[v]) (dV.nil.cons hv);refine h.mono ?_;rintro e W' ⟨y,β',rfl,hy,hb⟩;obtain rfl:=Z6 hy;exact⟨rfl,hb⟩
end Go.Proofs.YtdacpmgnhkmnkaaGreatDoor
end
