/-
  A part of the proof: the small machine, its simulation and its walks.
-/
import Derived.Test.YtjibdelmjcenhaaGreatDoorProg
import Derived.WalkKit
import Derived.WalkSpells
import Derived.WalkLawsBesides
import Derived.Handy
import Derived.Lib.Hide
import Derived.Deep.QuietTactic
import Derived.BigQuiet
import Derived.RunT
import Derived.Lone
import Derived.Lib.QuietBelow
import Derived.Test.YtjibdelmjcenhaaGreatDoorCards
import Derived.Test.YtjibdelmjcenhaaGreatDoorTie
import Derived.ProofKit
import Derived.OpenShut
import Derived.Deep.DeepHandedRow
import Derived.Lib.LaidTab
import Derived.Lib.LaidU8
import Derived.ChangeOld
import Derived.Tactics
import Derived.RowKit3
import Derived.Orders
import Derived.Below
import Derived.IntWalk
import Derived.Sort.Defs
import Derived.Lib.BitFns
import Derived.CheckFast
import Derived.Laws.CopyRow
import Derived.Laws.Cells
import Derived.Laws.Append
import Derived.Laws.StructEq
import Derived.Laws.Slices
import Derived.Laws.Tables
import Derived.Laws.Small
import Derived.ChangeKeysEq
import Derived.MapKept
set_option linter.unusedVariables false
set_option linter.unusedSimpArgs false
set_option linter.unusedSectionVars false
set_option linter.defProp false
set_option maxRecDepth 1000000
set_option maxHeartbeats 3200000
open Nat renaming reduceLT → Xa, reduceAdd → Xb, reduceMul → Xc, reduceLeDiff → Xd, reduceEqDiff → Xe
namespace Go.Proofs
section
variable {p:Prop}
def aC(h:p:=by
 refine zn (fun jj st=>∃(i:Nat)(O:aS),l.l.length-i<=jj/\(1<=i/\i<=l.l.length+1)/\qc l.l i/\st.aa=O/\aN 20 st.t [(0,l.v),(3,iv i)]) l.l.length Z ⟨1,[],Z,Z,fun i x y h _ _=>by omega,rfl,by simp only[V0,seval,af,Sh]⟩ ?_;rintro jj ⟨t,aa⟩ KA ⟨i,O,hjj,hi,ha,rfl,af⟩ bp bK bQ;simp only[V3]at af;by_cases h:i<l.l.length
 .obtain⟨x,hx⟩:=fc (l:=l.l) (i:=i) h;have h0:i-1<l.l.length:=Z;obtain⟨y,hy⟩:=fc (l:=l.l) (i:=i-1) h0;have gE:bB (l.l.flatMap aK) (i*1) 1=some [aB x]:=zd ze 0 1 hx Z;have r7:bB (l.l.flatMap aK) ((i-1)*1) 1=some [aB y]:=zd ze 0 1 hy Z;have hw:=zt i;have hv:aT .i64 ((i:Int)-1)=((i-1:Nat):Int):=oS;by_cases hb:x<=y
  .simp only[V0,seval,zc l h,zc l h0,l7,hb, *];refine bQ _ ?_;have hf:dz l.l=false:=by rw[←tZ];intro hc;have:=yC.1 hc (i-1) y x Z hy (by rw[show i-1+1=i by omega];exact hx);omega
   simp only[V0,seval,af,hf]
  .simp only[V0,seval,zc l h,zc l h0,l7,hb, *];refine bp _ (l.l.length-(i+1)) Z ⟨i+1,_,Z,Z,?_,rfl,bS⟩;intro j u v hj hu hv;by_cases hj2:j+1<i
   .exact ha j u v hj2 hu hv
   .have e:j=i-1:=Z;subst e;rw[show i-1+1=i by omega]at hv;rw[hy]at hu;rw[hx]at hv;cases hu;cases hv;omega
 .simp only[V0,seval,af,h];refine bK _ _ ?_;have hf:dz l.l=true:=yC.2 fun j u v hj hu hv=>ha j u v Z hu hv;simp only[V0,seval,af,hf]):p:=h
def aD(h:p:=by
 refine zm xs.length (fun i st=>(xs.take i).contains n=false/\st.aa=[]/\aN 18 st.t [(0,lv),(1,aB n),(5,iv i)]) Z ⟨M,rfl,by simp[V0,seval,af,cZ]⟩ ?_;clear af;rintro i ⟨t,bJ⟩ KA hi ⟨hc,rfl,af⟩ bp bK bQ;simp[za,zb,zf]at af;by_cases h2:i<xs.length
 .obtain⟨x,hx⟩:=fc (l:=xs) (i:=i) h2;have gE:bB (xs.flatMap aK) (i*1) 1=some [aB x]:=zd ze 0 1 hx Z;have hw:=zt i;cases hb:x==n
  .have nM:(xs.take (i+1)).contains n=false:=by rw[zy hx,Zq,hc,hb];rfl
   rcases h with⟨q0,rfl,rfl⟩|⟨l,b,cap,tg,hl,rfl,qT⟩
   .simp only[V0,seval,zc q0 h2,hb, *]
   .have mB:¬ l=d+1:=Z;simp only[V0,seval,zo,hb, *]
  .rcases h with⟨q0,rfl,rfl⟩|⟨l,b,cap,tg,hl,rfl,qT⟩
   .simp only[V0,seval,af,hlen,h2,zc q0 h2,gE,hb];refine bQ _ ?_;simp only[V0,seval,af];exact⟨.inr trivial,_,_,rfl,rfl,by grind⟩
   .have mB:¬ l=d+1:=Z;simp only[V0,seval,zo,hb, *];refine bQ _ ?_;simp only[V0,seval,af];exact⟨.inr trivial,_,_,rfl,rfl,by grind⟩
 .simp[V0,seval,af,hlen,h2];refine bK _ _ ?_;rw[fT Z]at hc;simp only[V0,seval,af];exact⟨.inr trivial,_,_,rfl,rfl,by grind⟩):p:=h
def aI(h:p:=by exact cU rfl rfl):p:=h
def Rr(h:p:=by
 have h3':=h3
 unfold dR at h3'
 simp only[i241,IC.sub,V0,seval,zR,j4, *]
 exact hK _ _ (by simp[V0,seval,bV,bT, *])):p:=h
def xaa(h:p:=by
 have h3':=h3
 unfold dR at h3'
 simp only[V0,seval,zR,j4, *]
 exact hK _ _ (by simp[V0,seval,bV,bT, *])):p:=h
def xab(h:p:=by
 exfalso
 unfold aY at h
 revert h
 intro h
 split at h
 .grind
 .cases hs:ρ t s<;>rw[hs]at h<;>simp only at h<;>first|(simp at h;done)|skip
  .split at h
   .cases(yt h).2.1
   grind
  .split at h
   .split at h
    .split at h
     .grind
     .split at h
      .split at h
       .cases(yt h).2.1
       .split at h
        .cases(za6 h).2.1
        grind
      grind
    grind
   grind
  .split at h
   .split at h
    .cases(yt h).2.1
    grind
   grind):p:=h
def xac(h:p:=by
 cases o:qH s.A s.B x.at'
 .simp only[V0,seval,zc p.ns h, *];exact bp Z _ ⟨_,next (.inl o),rfl,bS⟩
 .simp only[V0,seval,zc p.ns h, *];refine bQ _ ?_;simp[V0,seval,af,eS,stop o (by grind),dZ]):p:=h
def xad(h:p:=by
 have nI:Instr.fill (fun i=>some (i*n,n)) ((Array.range (len*n)).map (((if len*n=0 then(#[]:Array Value)else zv.cells))[·%((if len*n=0 then(#[]:Array Value)else zv.cells)).size]!)) (parts.map fun p=>(p.1,a.eval p.2)).toList=some cs':=by rw[←e1,zns];grind
 simp only[execOp,ho,jB,Instr.buildSlice,run_underlying hu,jJ,yh hn]
 rw[b9 Z]
 by_cases h0:len*n=0
 .rw[bU h0]at nI
  simp only[h0,if_true,jB,lq,jJ]
  rw[h0]at nI
  rw[nI]
  rfl
 .rw[b9 h0]at nI
  rw[b9 h0]
  simp only[zeroValue,typeInfo,jB,run_program,jJ,hie,EI,lq]
  rw[nI]
  rfl):p:=h
def xae(h:p:=by
 simp only[V0,Xa,Xb,Xe,ez, *]
 exact bp Z _ ⟨_,xQ,rfl,by simp[V0,Xa,Xe,af,mL]⟩):p:=h
def xaf(h:p:=by
 cases h2:decide (2097152<x.x)
 .cases h3:decide (x.y < -2097152)
  .cases h4:decide (2097152<x.y)
   .simp only[V0,seval,zC,ez, *];refine bp Z _ ⟨_,?_,rfl,bS⟩;rw[jh,hx,oP,Vt,ha];simp[bg,h1,h2,h3,h4]
   .simp only[V0,seval,zC,ez, *];refine bQ _ ?_;simp only[V0,seval,af,fin (by simp[bg,h1,h2,h3,h4])]
  .simp only[V0,seval,zC,ez, *];refine bQ _ ?_;simp only[V0,seval,af,fin (by simp[bg,h1,h2,h3])]
 .simp only[V0,seval,zC,ez, *];refine bQ _ ?_;simp only[V0,seval,af,fin (by simp[bg,h1,h2])]):p:=h
def xag(h:p:=by simp[gu,fP,eT,jm,Pt.c,zf,fB,gq,gF,eB]at bz;rw[←zy (by grind)]at cL;have EO:∀(lk:Nat->Nat->Option aP)(a b:IV),bW lk 2 (.slC [a,b] 1 2 true)=some ([a,b],1):=fun lk a b=>rfl;rw[(show((q.l.length:Nat):Int)-1-(i:Int)=((q.l.length-1-i:Nat):Int) by omega)]at af;simp only[V0,Xa,Xb,Xe,af,l7,(eq_true Z:(0<=((q.l.length-1-i:Nat):Int))=True),zc q hk,hrd,rep,zh,zl,zq,EO,bz,(zA Z Z Z:aT .i64 (((q.l.length-1-i:Nat):Int)-1)=((q.l.length:Nat):Int)-1-((i+1:Nat):Int))];exact bp Z _ ⟨J2,cH,cL,rfl,by simp[V0,Xa,Xe,af]⟩):p:=h
def xah(h:p:=by let⟨rfl,rfl⟩:=hp;let⟨rfl,rfl⟩:=hq;simp[i305,IC.sub,V0,seval,af,cb,h1,h2];refine fin _ _ (by simp[V0,seval,af]) fun t' O' ht=>?_;simp[za,zb]at ht;simp[V0,seval,ht]):p:=h
def xai(h:p:=by let⟨rfl,rfl⟩:=hp;let⟨rfl,rfl⟩:=hq;simp[i241,IC.sub,V0,seval,af,cb,h1,h2];refine fin _ _ bS fun t' O' ht=>?_;simp[za,zb]at ht;simp[V0,seval,ht]):p:=h
def xaj(h:p:=by
 refine⟨fun l i k s o hb=>?_,fun l i l' i' k s s' o o' hb=>?_,fun l i k s hb=>?_,fun l i o hg hl=>?_,fun l i p hb=>?_⟩
 .simp[fo]at hb
 .simp[fo]at hb
 .simp[fo]at hb
 .unfold look at hg;grind
 .simp[fo]at hb):p:=h
def xak(h:p:=by
 induction ps generalizing c with
 |nil=>intro h;simp[dX,iw]at h;rw[h]
 |cons p ps ih =>
  let⟨off,m,x⟩:=p
  intro h
  simp only[dX,zi]at h
  split at h
  .rw[ih h]
   have:∀(xs:List IV)(c:List IV)(off:Nat),(dS c off xs).length=c.length:=by
    intro xs;induction xs with
    |nil=>intro c off;rfl
    |cons x xs ih2=>intro c off;simp[dS];grind
   grind
  grind):p:=h
def xal(h:p:=by
 let⟨o,st,h1,h2,j,h3,h4⟩:=h m Z (d+1) (fun l=>if l=d then aJ else ah l)
 have hm2:¬ i.mode=2:=Z
 have eX:seg c 0 (cap*sz)=some c:=by unfold seg;rw[bU Z,zi,s7,fT Z]
 simp[aL,hS,hi,b9 hm2,b9 Z,b9 Z,yG (show i.mode≠7 by omega),zi,h1]
 rcases h2 with rfl|rfl<;>simp[ended,h3,iD,leave,hm,if_true,handed,h4,eX,(zD fun x hx=>hfz x hx m Z _ _),dD,hf,zi]):p:=h
def xam(h:p:=by
 rw[O4,←xG]at nJ
 refine nJ.mono fun x W' hx=>?_
 obtain⟨rfl,m,os,rfl⟩:=hx
 have hp:=xd (nF n tb) n
 generalize Sort.pdq (nF n tb) (Array.range n) 0 n (Lib.bitLen n) true true=dk at hp ⊢
 have iM:=(zb3 (zev h0 C0) n).1
 rw[hp]at iM ⊢
 have:=hwm m os dk (by simpa using iM.length_eq)
 rw[mods (fun j hj=>vU.1 (iM.mem_iff.1 hj))]at this
 grind):p:=h
def xan(h:p:=by have:=zo (aa:=aa) (l:=D) (b:=1+b) (off:=0) (cap:=A.length) (z:=4) (z':=4) (tight:=false) (k:=.i64) hk;grind):p:=h
def xao(h:p:=by
 unfold aZ;have hp:=h.nice.Rq;rw[rE]at hp;rw[znn];refine⟨?_,?_,fun a ha b hb e=>?_⟩
 .rw[List.Nodup,rE,zlw];refine hp.imp_of_mem fun{a b} ha hb aq e=>?_;rw[h.ng ha,h.ng hb]at e;omega
 .grind
 .obtain⟨x,hx,rfl⟩:=kO.1 ha;obtain⟨y,hy,rfl⟩:=kO.1 hb;rw[Si]at hx;rw[h.ng hx]at e;have i1:=h.pid x hx;have i2:=h.pid y hy;omega):p:=h
def xap(h:p:=by simp[V0,Xa,Xe,af]):p:=h
def xaq(h:p:=by
 simp only[V0,seval,zc p.az h,bV, *]
 refine hT _ _ node x J.length i q' hlen _ _ _ _ _ _ _ _ xs hj0 (hO.more _) Z bS fun t' cH J' L' bs' gX xs' uY hm' ht'=>?_
 simp[za,zb,zf]at ht'
 simp only[V0,seval,ht',hw]
 exact bp Z _ ⟨cH,J',L',bs',gX,xs',uY,hst _ _ hm'.1 hm'.2,rfl,bS⟩):p:=h
def xar(h:p:=by
 clear qS
 go_wp2_with (first|(go_at_call 178;refine(YZ _ _ nL L _ HN.out pY Z Z).mono ?_;first|rintro e w' rfl rfl|rintro e w' ⟨rfl,rfl⟩)|(go_at_call 179;refine(zdk _ _ nL L _ HN.out pY Z).mono ?_;first|rintro e w' rfl rfl|rintro e w' ⟨rfl,rfl⟩))
 go_ret
 exact⟨yF Da.symm,kK⟩):p:=h
def xas(h:p:=by simp[bh,mq,qi,zV,zW,V0,seval,af,uW,pK,Zl,nY,nZ,iD,jY]):p:=h
def xat(h:p:=by
 simp only[V0,seval,af,h]
 refine bK _ _ ?_
 have hall:fIdx q l.l=-1:=by rw[fT Z]at ha;simp only[fIdx,ha]
 simp only[V0,seval,af,hall]):p:=h
def xau(h:p:=by
 have h3':=h3
 unfold dR at h3'
 simp only[i241,IC.sub,V0,seval,zR,j4, *]
 exact hK _ _ (by simp[V0,seval,af,h1,h2,h3,bV,bT])):p:=h
def xav(h:p:=by unfold look;rw[bU rfl,zu];rfl):p:=h
def xaw(h:p:=by
 subst hl;simp only[decodeN,if_true];constructor
 .intro h;injection h with h;subst h;decide
 .rintro⟨h1,h2⟩;cases L with
  |nil=>rfl
  |cons r L =>
   have:=(ZY r).1
   have h3:=dL List.length h2
   simp[units]at h3;omega):p:=h
def xax(h:p:=by
 have h3':=h3
 unfold dR at h3'
 simp only[V0,seval,zR,j4, *]
 exact hK _ _ (by simp[V0,seval,af,h1,h2,h3,bV,bT])):p:=h
def xay(h:p:=by simp[V0,Xe,af]):p:=h
def xaz(h:p:=by
 simp[aL,hS,hi,b9 (show ¬ i.mode=2 by omega),b9 (show ¬ i.mode=3 by omega),b9 (show ¬ 4<=i.mode%7 by omega),yG (show i.mode≠7 by omega),zi,h1]
 rcases h2 with rfl|rfl<;>simp[ended,h3,iD,leave,b9 (show ¬ i.mode=1 by omega),h4,iJ]):p:=h
def xa0(h:p:=by exact gJ _ (n-(i+1)) Z ⟨i+1,Z,Z,rfl,by simp[V0,Xa,Xe,reduceCtorEq,af,qm]⟩):p:=h
def xa1(h:p:=by unfold bound;omega):p:=h
def xa2(h:p:=by simp only[za,zb]at ht;simp[V0,seval,ht]):p:=h
def xa3(h:p:=by exact⟨_,_,R',h,fun _=>⟨c,rfl,rfl,fun h=>absurd h Z⟩⟩):p:=h
def xa4(h:p:=by
 have hl:ks.length=es.size:=by have:=h1.1;grind
 exact⟨rfl,fin _ ks.length hq fun ty'=>by simp[Builtin.len_,hty,run_underlying hu,(show(getObj k).run P W=.ok (.map es clock) W by simp[getObj,Sem.run,hh]),hl]⟩):p:=h
def xa5(h:p:=by
 rcases h with⟨q,rfl,rfl⟩|⟨l,b,cap,tg,_,rfl,_⟩
 .exact yx q
 rfl):p:=h
def xa6(h:p:=by
 cases hq:q x
 .simp only[V0,seval,zc l h, *]
  refine bp Z _ ⟨_,?_,rfl,bS⟩
  rw[jh,hx,oP,zlc,ha]
  grind
 .simp only[V0,seval,zc l h, *]
  refine bQ _ ?_
  simp only[V0,seval,af,zdx hx hq ha]):p:=h
def xa7(h:p:=by
 have:∀ l:List Ac,(l.flatMap (cD node)).length<=2*l.length:=fun l=>by
  induction l with
  |nil=>simp
  |cons a l ih =>
   rw[eT,mV,fB]
   have:(cD node a).length<=2:=by unfold cD;grind
   omega
 grind):p:=h
def xa8(h:p:=by case measure=>simp[intOf];omega):p:=h
def xa9(h:p:=by exact (zd Ac.aV 0 6 hx Z).trans rfl):p:=h
def xba(h:p:=by
 simp[aL,hS,hi,hm,(show ¬ (0=2) by simp),(show ¬ (0=3) by simp),(show ¬ (4<=0%7) by simp),if_false,yG (show(0:Nat)≠7 by simp),zi,h1]
 rcases h2 with rfl|rfl<;>simp[ended,h3,leave,(hv m Z _ _)]):p:=h
def xbb(h:p:=by
 cases l:(s.k:Int)==((s.n-1:Nat):Int)
 .exact xac
 .cases e2:s.a.to==x.id
  .exact xac
  .simp only[V0,seval,zc p.ns h, *];exact bp Z _ ⟨_,next (.inr (by grind)),rfl,bS⟩):p:=h
def xbc(h:p:=by exact propext ⟨fun h=>h.2,fun h=>⟨.inr rfl,h⟩⟩):p:=h
def xbd(h:p:=by
 let⟨d1,d2⟩:=(h.qC hx).2 hz;have e:fk p z=h.eH.sc z:=by
  obtain⟨a,ha,rfl|rfl⟩:=h.dy.1 d1
  .exact(h.rM ha).2.symm
  .exact(h.rN ha).2.symm
 have hn:=h.VI d1;grind):p:=h
def xbe(h:p:=by rw[RL];have:=Lib.size_eq s;omega):p:=h
def xbf(h:p:=by
 split at h
 .rename_i st1 he;exact⟨.normal,st1,he,o,st',h,hk⟩
 .rename_i hne;refine⟨o,st',h,?_⟩;cases o with
  |normal=>grind
  |exit id=>exact hk
  |ret=>exact hk):p:=h
def xbg(h:p:=by
 cases args' with
 |nil=>have:=Lf.1;simp at this
 |cons y t=>cases t with
  |nil=>exact⟨y,rfl⟩
  |cons _ _=>have:=Lf.1;simp at this):p:=h
def xbh(h:p:=by cases b<;>simp[jA]at h):p:=h
def xbi(h:p:=by simp[za,zb]at ht';simp[V0,seval];refine bQ _ ?_;simp only[V0,seval,ht'];exact⟨M,_,_,rfl,hnil _ _,.inl ⟨false,rfl,tN (by rw[pz]at Pr;simp[lp,Pr]),fun h=>by grind⟩⟩):p:=h
def xbj(h:p:=by
 simp only[V0,seval,zc p.az h, *]
 refine bQ _ ?_
 exact hK _ _ (by simp only[V0,seval,af,BY,hn1,yl (q:=fun a=>!fq p a.l||!fq p a.r) hx (by grind),bV,bT])):p:=h
def xbk(h:p:=by
 refine⟨_,_,_,rfl,.inr ⟨J.length+k,hne,M,?_⟩⟩
 grind):p:=h
def xbl(h:p:=by simp only[V0,seval,zc p.az h, *];exact bp Z _ ⟨_,rfl,bS⟩):p:=h
def xbm(h:p:=by
 by_cases h0:len*n=0
 .have hl0:len=0:=by rcases zm1.1 h0 with h|h<;>omega
  subst hl0;simp[rep];exact .nil
 .have:=za3 (I:=I) (W:=W) (zT hv) Z len;grind):p:=h
def xbn(h:p:=by
 cases hb
 simp only[qB,V0,seval,af,jX,Bb,ft,uW,FW,hwr,pK,hcx,hcz,hzs,nh,hz,hg,eB,cI,hrd]
 refine⟨_,?_,fin (g x) true false _ (sC x)⟩
 exact xas):p:=h
def xbo(h:p:=by let⟨h1,h2⟩:=zL hm;refine⟨h1.trans hv.1,fun j a b ha hb=>?_⟩;let⟨a0,ha0,Ll⟩:=h2 j a ha;exact ZS H3 n a0 a b (hv.2 j a0 b ha0 hb) Ll):p:=h
def xbp(h:p:=by
 induction n with
 |zero=>simp[om]
 |succ n ih=>simp[om,mV,ih,JW,Ba];omega):p:=h
def xbq(h:p:=by obtain⟨a,_,h⟩:=oQ.1 hx;simp[aK,eG,gm,gw]at h;rcases h with rfl;rfl):p:=h
def xbr(h:p:=by
 have h:=dL List.length hcs;rw[qE]at h;have h2:=yV (dV (dF p) (dQ p)) id (aZ p) [] [];have hdl:(aZ p).length<=400:=by unfold aZ;grind
 unfold bn at h;grind):p:=h
def xbs(h:p:=by
 simp only[qB,V0,seval,af,jX,Bb,ft,uW,FW,hwr,pK,hcx,hcz,hzs,nh,hz,hg,eB,cI,hrd,C2,c0]
 refine⟨_,?_,fin (X.z) false false _ hzf⟩
 exact xas):p:=h
def xbt(h:p:=by simp only[V0,Xa,Xe,zc p.az h, *];exact bp Z _ ⟨_,rfl,by simp[V0,Xa,Xe,af,hd]⟩):p:=h
def xbu(h:p:=by exact zd ze 0 1 hx Z):p:=h
def xbv(h:p:=by unfold tw;grind):p:=h
def xbw(h:p:=by
 simp only[V0,seval,af,h,zc q h,gE,Sa,R9,jX,ft,Bb,rep,zh,zl,zq,EO,bz,hw]
 exact bp Z _ ⟨J2,cH,cL,rfl,by simp[V0,seval,af,h,Sa,R9,jX,ft,EO,bz,hw]⟩):p:=h
def xbx(h:p:=by
 have hl:look d ah (bI [0,1] 1 [p.o,aH (A.flatMap aK),aH (Q.flatMap aK),.free,.free]) d 2=some (aH (Q.flatMap aK)):=xav
 simp only[bW,hl,sQ,iJ]):p:=h
def xby(h:p:=by
 cases h with
 |nil=>rfl
 |row cs n tight hl=>exact hc):p:=h
def xbz(h:p:=by
 rcases hf with rfl|rfl|rfl|rfl
 .exact zco hS x.1 y.1
 .exact zfs hS x.1 y.1
 .exact zcp hS x.1 y.1
 .exact zas hS x.1 y.1 (by grind)):p:=h
def xb0(h:p:=by
 rcases ho with rfl|rfl
 .exact hgoal
 .exact hgoal):p:=h
def xb1(h:p:=by have h2:=yk (l:=g x);grind):p:=h
def xb2(h:p:=by exact (zd Ac.aV 0 1 hx Z).trans rfl):p:=h
def xb3(h:p:=by have:=z8 (B:=g x) (A:=[]) (R:=X.z) (k:=0) rfl (by grind);grind):p:=h
def xb4(h:p:=by simp only[execOp,ho,hq,jB,run _ _ _ _ _ _ (zal (P:=P) (W:=W) (b:=true) hm' g2 (yW ht h2 e2) (iQ hc.2.1 g1) (yW ht h1 e1) hc.2.2 RW),jJ,lq,EK]):p:=h
def xb5(h:p:=by rw[zu];simp):p:=h
def xb6(h:p:=by
 have hl:look d ah (bI [0,1] 1 [p.o,.free,aH (Q.flatMap aK),.free,.free]) d 2=some (aH (Q.flatMap aK)):=xav
 simp only[bW,hl,sQ,iJ]):p:=h
def xb7(h:p:=by
 simp only[V0,seval,af,h];refine bK _ _ ?_;have hall:l.all bg=true:=by rw[←fT (l:=l) (i:=i) Z];exact ha
 simp only[V0,seval,af,hall]):p:=h
def xb8(h:p:=by rcases hl with⟨_,h⟩|⟨_,_,h,_⟩<;>first|grind|grind):p:=h
def xb9(h:p:=by simp only[bN,h1,h2,h8,h3,h4,h5,h6,h7,W0,seval];rfl):p:=h
def xca(h:p:=by exact bp Z _ ⟨_,rfl,by simp[V0,Xa,Xe,af,hst]⟩):p:=h
def xcb(h:p:=by
 split at hc
 .grind
 .rename_i hg
  obtain⟨ks,hk,rfl⟩:=map_some hc
  exact HM ho hop hu rfl (by grind) hk ht hx hy he):p:=h
def xcc(h:p:=by have hl:s.1.data.toList.length=s.1.size:=rfl;unfold Nm.check;rw[b9 (fun h=>by rw[h]at hl;simp at hl;omega),bU Z]):p:=h
def xcd(h:p:=by simp only[i109,V0,seval,af,yJ,yK,w1,w01,l01,l11,l00,u1,sh1,i0,ia,mB,iN,hb',c0,c1,d1,hz];exact⟨.inr trivial,_,_,rfl,rfl,0,rfl⟩):p:=h
def xce(h:p:=by
 have:=hQ β1 W1 a1 g1 g2 g3 g4
 cases o with
 |normal=>grind
 |exit id=>exact this
 |ret=>exact this):p:=h
def xcf(h:p:=by simp only[V0,seval,af];exact⟨.inr trivial,_,_,rfl,rfl,by grind⟩):p:=h
def xcg(h:p:=by
 obtain⟨s',O,q1,q2,rfl,q4⟩:=e2
 obtain⟨s,hs,rfl⟩:=HA q1
 refine⟨_,h2,?_⟩
 rw[Ze (c2 s hs)]
 grind):p:=h
def xch(h:p:=by simp[V0,seval,zc p.ns h,ud, *];refine hr _ ?_;simp only[V0,seval,af,YI (p:=fun f=>f.id==id) hc hx hb];exact⟨_,rfl,rfl⟩):p:=h
def xci(h:p:=by
 have:q.x<p.x:=by
  by_cases hx:p.x-q.x<=0
  .have:=zj1 hx (zmn fD);omega
  omega
 omega):p:=h
def xcj(h:p:=by
 have:p.x<q.x:=by
  by_cases hx:0<=p.x-q.x
  .have:=Ey hx (zmn fD);omega
  omega
 omega):p:=h
def xck(h:p:=by unfold SL Ig S0;simp only[show Nat.beq 144 8=false from rfl,show Nat.beq 144 144=true from rfl,RM,dZ,bT,bV,hs]):p:=h
def xcl(h:p:=by
 rcases hf with rfl|rfl|rfl
 .exact zcm hS x.1 y.1 (by grind)
 .exact zcn hS x.1 y.1
 .exact zar hS x.1 y.1):p:=h
def xcm(h:p:=by
 by_cases h0:n=0
 .grind
 .rw[b9 h0]at h;cases h;exact⟨_,by simp[binOp,Op.intDiv,h0]<;>rfl,.int _ _⟩):p:=h
def xcn(h:p:=by exact (zd Nd.aV 0 3 hx Z).trans rfl):p:=h
def xco(h:p:=by unfold SL Ig S0;simp only[show Nat.beq 53 8=false from rfl,show Nat.beq 53 53=true from rfl,k9,dZ,bT,bV,hs]):p:=h
def xcp(h:p:=by
 cases hk
 refine⟨rfl,fun o2=>?_⟩
 simp only[has]
 exact hfun o2):p:=h
def xcq(h:p:=by cases op<;>simp[eqGuard]):p:=h
def xcr(h:p:=by simp[freeze,(zD fun x hx=>hc x hx m Z d aa),iJ]):p:=h
def xcs(h:p:=by rw[hh]at nM;cases nM;exact⟨_,by rw[hW'];exact setRow_heap W k c' _ ty' _ hh,by simp;omega⟩):p:=h
def xct(h:p:=by exact ⟨fun _ _ _ h=>h,fun _ _ _ _ h=>.inl h,fun _ _ _=>rfl,cI _,fun _ c _ _ h=>⟨c,h,rfl⟩,rfl,rfl,rfl⟩):p:=h
def xcu(h:p:=by
 obtain⟨rfl,h1,h2⟩:=hx
 exact⟨_,I,rfl,.tuple rfl (fun j a b ha=>by simp),h1,h2,fun h=>by grind⟩):p:=h
def xcv(h:p:=by unfold aZ;grind):p:=h
def xcw(h:p:=by simp[look,if_true,zN];omega):p:=h
def xcx(h:p:=by constructor<;>exact⟨fun _=>Cz hS Φ,rfl⟩):p:=h
def xcy(h:p:=by simp only[V0,Xa,Xe,reduceCtorEq,zc l h, *];exact bp Z _ ⟨_,rfl,by simp[V0,Xa,Xe,reduceCtorEq,af,hst]⟩):p:=h
def xcz(h:p:=by
 subst hq
 refine⟨_,I,W,?_,hv,hR,Fr.refl _ _ _⟩
 rw[Y1 hu hi hs hsz hb hz hx Z,hys]
 rfl):p:=h
def xc0(h:p:=by
 cases hv:t[j]? with
 |none=>simp[cK,hv]
 |some v=>cases v with
  |bool c=>grind
  |_=>simp[cK,hv]):p:=h
def xc1(h:p:=by
 rcases h1 with rfl|rfl<;>rcases h2 with rfl|rfl
 .omega
 .omega
 .omega
 grind):p:=h
def xc2(h:p:=by exact (zd zx 0 1 hx Z).trans rfl):p:=h
def xc3(h:p:=by
 simp only[V0,seval,af,h]
 refine jL _ _ ?_
 simp[V0,seval,af]
 exact fin _ _ lv hO bS):p:=h
def xc4(h:p:=by simp[eR]at h):p:=h
def xc5(h:p:=by
 simp only[i198,IC.sub,V0,seval,l7, *]
 exact hK _ _ (by simp[V0,seval,af,tK,g1,g2,g3,dZ,bT])):p:=h
def xc6(h:p:=by unfold bound at hle;omega):p:=h
def xc7(h:p:=by simp only[eR,eqv];grind):p:=h
def xc8(h:p:=by exact ⟨fun _=>rfl,fun _=>rfl,fun _=>rfl,fun _=>rfl⟩):p:=h
def xc9(h:p:=by
 simp[i186,IC.sub,V0,seval,af,hj,hf]
 exact hK _ _ _ _ _ _ _ hj hO ⟨by grind,fun k=>by grind⟩ bS):p:=h
def xda(h:p:=by rw[Lib.iterAt_size];omega):p:=h
def xdb(h:p:=by rw[nu];intro x hx;obtain⟨k,hk,rfl⟩:=RO.1 hx;have:=hall.out k Z;rw[Xk hk]at this;simpa using this):p:=h
def xdc(h:p:=by
 by_cases he:R.rp m i=R.rp m j
 .have z:=R.xgr i j m (fun h=>by grind) Z Z Z Z he;omega
 omega):p:=h
def xdd(h:p:=by
 first
  |rfl
  |(simp[J4];rfl)
  |grind):p:=h
def xde(h:p:=by exact propext ⟨fun h=>h.2,fun h=>⟨.inl rfl,h⟩⟩):p:=h
def xdf(h:p:=by exact⟨.inr trivial,_,_,rfl,rfl,rfl⟩):p:=h
def xdg(h:p:=by
 simp only[V0,Xa,Xe,zo,Yq Pv,Yq hb, *]
 exact bp Z _ ⟨R++[.free],M,by simp[V0,Xa,Xe,af,hst]⟩):p:=h
def xdh(h:p:=by
 have:=run_build W ty (parts.map fun p=>(p.1,a.eval p.2)) cs' hb
 simp only[execOp,ho,jB]
 simp_all):p:=h
def xdi(h:p:=by simp[V0,Xa,af,h,RN];refine bK _ _ ?_;simp[V0,Xa,af,(Ak hle fun j u v hj hu hv=>ha j u v Z hu hv)]):p:=h
def xdj(h:p:=by
 simp only[comm,vX,ET,pM]at hc;rcases hc with(hc|hc)|hc
 .grind
 .omega
 omega):p:=h
def xdk(h:p:=by
 simp only[i198,IC.sub,V0,seval,l7, *]
 exact hK _ _ (by simp[V0,seval,af,tK,g1,g2,dZ,bT])):p:=h
def xdl(h:p:=by obtain⟨v,aU,h1,rfl,rfl⟩:=main;exact fun aJ id=>(yU (hS _ _ M M M M) rfl rfl).trans (h1 0)):p:=h
def xdm(h:p:=by
 clear f0 f1 qS th
 go_wp2_with fail
 go_ret2
 exact kN.err kK (Nm.jS (by rw[hB];decide)) hB):p:=h
def xdn(h:p:=by simp[bh,mq,qi,zV,zW,V0,seval,af,nY,nZ]):p:=h
def xdo(h:p:=by have h1:=(e _ _)▸h1;have h2:=(e _ _)▸h2;have h3:=(e _ _)▸h3;unfold Bc SF at h1 h2 h3;grind):p:=h
def xdp(h:p:=by exact⟨rfl,rfl,_,by simp[execOp,ho,hx'],hx'▸hv⟩):p:=h
def xdq(h:p:=by
 rw[Op.equalIn];simp only[jB,run_underlying hu,jJ];rcases h with rfl|rfl
 .rfl
 .cases p<;>rfl):p:=h
def xdr(h:p:=by
 simp only[i198,IC.sub,V0,seval,l7, *]
 exact hK _ _ (by simp[V0,seval,af,tK,g1,dZ,bT])):p:=h
def xds(h:p:=by
 simp only[i198,IC.sub,V0,seval,l7, *]
 exact hK _ _ (by simp[V0,seval,tK,bT, *])):p:=h
def xdt(h:p:=by
 simp only[i198,IC.sub,V0,seval,l7, *]
 exact hK _ _ (by simp[V0,seval,tK,bV, *])):p:=h
def xdu(h:p:=by
 refine⟨_,_,_,rfl,.inr ⟨J.length+k,Z,hne,M,?_⟩,fun j hj=>?_,M⟩
 .grind
 grind):p:=h
def xdv(h:p:=by
 cases he:F.all fun f=>f.1 z x
 .simp[LI,he,Hg]
 .simp only[jr,he,bV]at h;grind):p:=h
def xdw(h:p:=by simp[V0,seval,af,h,ud];refine he _ _ ?_;simp only[V0,seval,af,Z9 hc h];exact⟨_,rfl,rfl⟩):p:=h
def xdx(h:p:=by
 simp only[dA,kI,hx,zY,zi,JX,nv,if_false]
 grind):p:=h
def xdy(h:p:=by exact (zd Pt.aV 0 2 hy Z).trans rfl):p:=h
def xdz(h:p:=by unfold tw cr;grind):p:=h
def xd0(h:p:=by
 obtain⟨r,hr,h3|h3⟩:=Rc hS p h1 h2 jH (ah:=ah) (aJ:=aJ) (d:=d) hm hid
 .grind
 grind):p:=h
def xd1(h:p:=by exact vG (id:=sl) hC hs (Hz htb h0 x y) (hb.fr g2) g3 (hel x) (hel y) (hcap.ext g2.ext)):p:=h
def xd2(h:p:=by
 unfold Sem.run
 split
 · exact cI _
 · grind
 · exact cI _):p:=h
def xd3(h:p:=by exact ⟨by have:=hl.1;grind,fun j p q hp hq=>hl.2 (j+1) p q (by grind) (by grind)⟩):p:=h
def xd4(h:p:=by
 cases hf:lC (gO u,r5) (ρ t y') ks vs with
 |none=>grind
 |some w =>
  grind):p:=h
def xd5(h:p:=by
 let⟨h1,h2⟩:=ha;match args',h1 with
 |[y],_=>exact⟨y,rfl,h2 0 _ _ rfl rfl⟩):p:=h
def xd6(h:p:=by exact hK _ _ _ _ _ _ _ (hkeep j _ (by grind) Q3) I8 ⟨by grind,fun k=>by grind⟩ bS):p:=h
def xd7(h:p:=by
 refine Hj fun j=>?_;rw[qn,qn];by_cases hj:k=j
 .subst hj;rw[vW hl,ha];rfl
 grind):p:=h
def xd8(h:p:=by rw[Zy];simp only[e7,h1,h2,look,b9 hne,bU hdm,hmap,jE,iJ,hr2];rfl):p:=h
def xd9(h:p:=by simp only[i284,V0,seval,YK,zR,j4,bT,bV,dZ, *]):p:=h
def xea(h:p:=by refine kP _ ?_;simp[V0,seval];refine bQ _ ?_;simp[V0,seval,af,hit (TV.trans hj)]):p:=h
def xeb(h:p:=by rw[zi,zj ze,bU Z,s7,fT (by rw[zj ze];simp)]):p:=h
def xec(h:p:=by
 simp only[V0,Xa,Xe,zc p.az h,rep,zh,zl,zq,zw, *]
 exact step _ J2 cH Z xap):p:=h
def xed(h:p:=by exact⟨rfl,fin _ n hq fun ty'=>by simp[Builtin.len_,hty,run_underlying hu]⟩):p:=h
def xee(h:p:=by have:m*(i.bytes:Int)<=1073741824*1024:=zn2 Z Z Z Z;omega):p:=h
def xef(h:p:=by refine fin _ _ bS fun t' O' ht=>?_;simp[za,zb]at ht;simp[V0,seval,ht,dZ,bT,bV]):p:=h
def xeg(h:p:=by exact .inl ⟨kU 1 aK,rfl,rfl⟩):p:=h
def xeh(h:p:=by
 rcases kJ Z hD.l with⟨h1,_⟩|⟨b',_,h1,h2,h3⟩
 .grind
 grind):p:=h
def xei(h:p:=by exact⟨Lm,.slice none 0 0,by rw[HF.out];exact OI.nil _ _,by rw[HF.out];rfl⟩):p:=h
def xej(h:p:=by exact bp Z _ ⟨_,B,A,by rw[hic];exact hD.more _,rfl,by simp[V0,Xa,Xe,af]⟩):p:=h
def xek(h:p:=by simp only[V0,seval,zc p.az h,ez, *];exact bp Z _ ⟨_,zJ hx ha hq,rfl,bS⟩):p:=h
def xel(h:p:=by cases h;rfl):p:=h
def xem(h:p:=by subst h;exact(z6 _ _).trans (IntWalk.i64_in _ (by grind))):p:=h
def xen(h:p:=by
 rcases h.l with⟨h0,_⟩|⟨b,_,h1,h2,h3⟩
 .exact absurd h0 h.ne
 grind):p:=h
def xeo(h:p:=by
 cases L.findIdx? fun kv=>id==kv.1 with
 |none=>rfl
 |some j=>grind):p:=h
def xep(h:p:=by have:=zfq hv p.az.l.length;rw[rD]at this;unfold lM;omega):p:=h
def xeq(h:p:=by exact bp Z _ ⟨_,vn ha hx hy hq,rfl,by simp[V0,Xa,Xe,reduceCtorEq,af]⟩):p:=h
def xer(h:p:=by
 unfold bR;cases decide (0<z)
 .rw[bT,Vy];exact yT gV _
 .exact yT gV _):p:=h
def xes(h:p:=by obtain⟨_,_,a,b,c,_⟩:=zcu ((hg' c hc).2.2 z hz);grind):p:=h
def xet(h:p:=by
 let⟨g1,g2,g3⟩:=hD.el j a ha
 grind):p:=h
def xeu(h:p:=by unfold seg;rw[bU Z,zi,s7,fT Z]):p:=h
def xev(h:p:=by simp only[V0,seval,af,hf]):p:=h
def xew(h:p:=by
 refine bK _ _ ?_
 simp[V0]
 rw[fT Z]at hO
 exact hK _ J lv hO xay):p:=h
def xex(h:p:=by simp only[jk,vX,pM];omega):p:=h
def xey(h:p:=by
 rcases kJ Z Lo.l with⟨h1,_⟩|⟨b',_,h1,h2,h3⟩
 .grind
 grind):p:=h
def xez(h:p:=by unfold look;grind):p:=h
def xe0(h:p:=by simp[cK,hc,hcb]):p:=h
def xe1(h:p:=by rw[z6];decide):p:=h
def xe2(h:p:=by obtain⟨a,_,ha⟩:=oQ.1 hx;exact hf a x ha _ Z _ _):p:=h
def xe3(h:p:=by unfold HP;rw[Xm (zS ha) (zS hb) (zS hq),←Sn];grind):p:=h
def xe4(h:p:=by cases b<;>simp[jA]at h;rfl):p:=h
def xe5(h:p:=by exact hn h _ ⟨_,Z8 hc hx hb,rfl,bS⟩):p:=h
def xe6(h:p:=by exact⟨_,rfl,Zo (n:=2) rfl m Z _ _⟩):p:=h
def xe7(h:p:=by have:=Gl.sL s.data.toList;rw[E1.out]at this;exact iQ this iN):p:=h
def xe8(h:p:=by
 unfold iG
 rw[hk,zN,gU]
 simp only[zi]
 rw[yd,yd]
 exact xbk):p:=h
def xe9(h:p:=by exact yl (q:=fun a:Ac=>decide ((64:Int)<(a.via.l.length:Int))) hx hq):p:=h
def xfa(h:p:=by
 simp only[execOp,ho,hx2,hq,jB,run _ _ _ _ _ h0 au,jJ,lq]
 grind):p:=h
def xfb(h:p:=by simp[Instr.checkKey,run_underlying hu]):p:=h
def xfc(h:p:=by exact bp _ (p.ns.l.length-(i+1)) Z ⟨i+1,J2,cH,Z,Z,cL,rfl,bS⟩):p:=h
def xfd(h:p:=by exact gJ _ (i-(k+1)) Z ⟨k+1,_,Z,Z,next (TV.trans hj),rfl,bS⟩):p:=h
def xfe(h:p:=by unfold script;omega):p:=h
def xff(h:p:=by rw[←hW1];rfl):p:=h
def xfg(h:p:=by
 have:eR [1] [aB id] [aB kv.1]=some (id==kv.1):=xc7
 exact this):p:=h
def xfh(h:p:=by
 unfold dD
 rw[hk,zN,gU]
 simp only[zi]
 rw[yd]
 exact xbk):p:=h
def xfi(h:p:=by simp[i284,V0,seval,YK,zR,j4,bT,bV, *]):p:=h
def xfj(h:p:=by exact IntWalk.wrap64_in _ ⟨Z,Z⟩):p:=h
def xfk(h:p:=by
 obtain⟨cs',hcs,rfl⟩:=map_some hf
 exact zec (vrs hw hcs)):p:=h
def xfl(h:p:=by obtain⟨a,_,rfl⟩:=kO.1 hx;exact zp n Z _ _):p:=h
def xfm(h:p:=by rcases h with⟨_,rfl⟩|⟨b,_,rfl,_⟩<;>rfl):p:=h
def xfn(h:p:=by exact (zd Nd.aV 0 1 hx Z).trans rfl):p:=h
def xfo(h:p:=by have:=hb.ns;have:=ho.ns;have:=ht.ns;omega):p:=h
def xfp(h:p:=by have:=hb.az;have:=ho.az;have:=ht.az;omega):p:=h
def xfq(h:p:=by have:=hb.ft;have:=ho.ft;have:=ht.ft;omega):p:=h
def xfr(h:p:=by
 cases q with
 |next m1=>exact iQ h h1
 |_=>trivial):p:=h
def xfs(h:p:=by cases s with|mk d=>simp at e;subst e;rfl):p:=h
def xft(h:p:=by have:=z8 (B:=A) (A:=[]) (R:=R) rfl Z;grind):p:=h
def xfu(h:p:=by rw[yi];omega):p:=h
def xfv(h:p:=by
 cases qV with
 |none=>simp_all
 |some q=>rfl):p:=h
def xfw(h:p:=by unfold bound;grind):p:=h
def xfx(h:p:=by unfold Pt.near at *;unfold Pt.h at h;omega):p:=h
def xfy(h:p:=by unfold Nm.check;grind):p:=h
def xfz(h:p:=by simp[gp,yI]):p:=h
def xf0(h:p:=by
 split at h
 .cases(yt h).2.1
 grind):p:=h
def xf1(h:p:=by rw[hx];rcases ho with rfl|rfl<;>simp[ended,hr,iD]):p:=h
def xf2(h:p:=by refine⟨.p::es,st',?_,h2⟩;simp[kQ,gW,hg,nv,if_false,h1]):p:=h
def xf3(h:p:=by simp only[i143,W0,seval,h1,h2,h8,h3,h4,h5,h6,h7];exact xb9):p:=h
def xf4(h:p:=by refine bQ _ ?_;simp only[V0,seval,af,fin (by simp[bg,h1])]):p:=h
def xf5(h:p:=by simp[eT,jm,gF,iT,oO,MW,yI,zbf,Yn,JZ]):p:=h
def xf6(h:p:=by unfold Gl.unit;grind):p:=h
def xf7(h:p:=by exact⟨rfl,fun oV o=>by grind⟩):p:=h
def xf8(h:p:=by exact⟨⟨a,b⟩,ha.append hb⟩):p:=h
def xf9(h:p:=by cases h<;>rfl):p:=h
def xga(h:p:=by simp only[i51,W0,seval,h1,h2,h8,h3,h4,h5,h6,h7];exact xb9):p:=h
def xgb(h:p:=by simp[i51,V0,seval,k9,jg,bV,bT, *]):p:=h
def xgc(h:p:=by exact bp Z _ ⟨_,_,_,pq,rfl,by simp[V0,Xa,Xe,af,hlv]⟩):p:=h
def xgd(h:p:=by have:=Z6 p s w;rw[h]at this;exact this):p:=h
def xge(h:p:=by rw[h1]at hp;rw[h2]at hq;simp[bV,bT,vT]at hp hq;exact xah):p:=h
def xgf(h:p:=by rw[h1]at hp;rw[h2]at hq;simp[bV,bT,vT]at hp hq;exact xai):p:=h
def xgg(h:p:=by
 rcases zae h with h|⟨y,hy,e⟩
 .grind
 grind):p:=h
def xgh(h:p:=by rw[g]at c1;simp only[i29,V0,Xa,Xb,Xe,af,c0,z0,c1,bF];rfl):p:=h
def xgi(h:p:=by exact⟨yF (by unfold Gl.script;omega),Below.refl _ _⟩):p:=h
def xgj(h:p:=by exact⟨rfl,fun n=>by cases n<;>simp[Instr.sameBits]⟩):p:=h
def xgk(h:p:=by simp only[V0,Xa,Xe,zc os h,zc os hk,ct,Xb, *];exact xca):p:=h
def xgl(h:p:=by
 split at he
 .grind
 .grind
 grind):p:=h
def xgm(h:p:=by rw[O4];unfold bound at hbd;omega):p:=h
def xgn(h:p:=by
 simp only[V0,seval,af,Z9 hc h]
 exact⟨_,rfl,rfl⟩):p:=h
def xgo(h:p:=by unfold seg;rw[zi,hfl,bU Z,s7,fT Z]):p:=h
def xgp(h:p:=by
 refine hR _ _ _ bS fun t' O' ht=>hK t' O' ?_
 grind):p:=h
def xgq(h:p:=by unfold nT;grind):p:=h
end
theorem Z{p:Prop}(h:p:=by omega):p:=h
theorem Δ{p:Prop}(h:p:=by decide):p:=h
theorem M{p:Prop}(h:p:=by simp):p:=h
theorem Φ{p:Prop}(h:p:=by rfl):p:=h
end Go.Proofs
namespace Go.Proofs
open Go
abbrev dw:=@List.getElem?_eq_getElem
abbrev ew:=@List.getElem?_eq_some_iff
abbrev cZ:=@Int.natCast_zero
abbrev fT:=@List.take_of_length_le
abbrev bT:=@cond_false
abbrev eT:=@List.flatMap_cons
abbrev bV:=@cond_true
abbrev cI:=@Nat.le_refl
abbrev dZ:=@Bool.false_and
abbrev fB:=@List.length_cons
abbrev fP:=@List.nil_append
abbrev gm:=@List.not_mem_nil
abbrev eG:=@List.mem_cons
abbrev gu:=@List.cons_append
abbrev iw:=@Option.some.injEq
abbrev eB:=@Nat.zero_add
abbrev gq:=@List.length_nil
abbrev gQ:=@List.getElem_mem
abbrev gF:=@List.append_nil
abbrev iD:=@Option.bind_some
abbrev jh:=@List.take_add_one
abbrev jJ:=@Result.andThen_ok
abbrev iJ:=@Option.map_some
abbrev jm:=@List.flatMap_nil
abbrev cU:=@Eq.trans
abbrev bU:=@if_pos
abbrev kE:=@Bool.and_eq_true
abbrev ez:=@gt_iff_lt
abbrev pN:=@List.getElem?_append_left
abbrev dL:=@congrArg
abbrev jg:=@Bool.false_or
abbrev j4:=@Bool.false_bne
abbrev b9:=@if_neg
abbrev iQ:=@Nat.le_trans
abbrev q8:=@List.getElem?_append_right
abbrev mo:=@List.append_assoc
abbrev og:=@List.mem_of_getElem?
abbrev mV:=@List.length_append
abbrev nZ:=@Option.bind_eq_bind
abbrev nv:=@Bool.false_eq_true
abbrev jB:=@Sem.run_bind
abbrev oP:=@Option.toList_some
abbrev nu:=@List.all_eq_true
abbrev rH:=@List.getElem?_cons_zero
abbrev rG:=@List.getElem?_cons_succ
abbrev mq:=@List.mapM_cons
abbrev kO:=@List.mem_map
abbrev EW:=@List.findIdx?_eq_some_iff_getElem
abbrev k9:=@Bool.true_or
abbrev rj:=@List.getElem?_of_mem
abbrev oQ:=@List.mem_flatMap
abbrev qj:=@List.mem_cons_self
abbrev gw:=@or_false
abbrev nY:=@Option.pure_def
abbrev lq:=@Sem.run_pure
abbrev pM:=@decide_eq_true_eq
abbrev EC:=@List.eq_nil_of_length_eq_zero
abbrev uc:=@List.length_eq_zero_iff
abbrev nr:=@Bool.and_false
abbrev mQ:=@List.map_cons
abbrev qn:=@List.getElem?_map
abbrev EB:=@List.getD_eq_getElem?_getD
abbrev vW:=@List.getElem?_set_self
abbrev tj:=@List.mem_cons_of_mem
abbrev oO:=@List.all_cons
abbrev EU:=@List.drop_eq_getElem_cons
abbrev rE:=@List.pairwise_map
abbrev qE:=@List.length_map
abbrev qY:=@List.mem_append
abbrev rD:=@List.take_length
abbrev s6:=@Option.some.inj
abbrev qi:=@List.mapM_nil
abbrev EA:=@Array.getElem?_toList
abbrev vV:=@List.pairwise_cons
abbrev l7:=@ge_iff_le
abbrev Bh:=@List.flatMap_append
abbrev Ez:=@Bool.or_eq_false_iff
abbrev tZ:=@Bool.not_eq_true
abbrev EV:=@List.getElem?_set_ne
abbrev Bb:=@bne_self_eq_false
abbrev s7:=@List.drop_zero
abbrev rF:=@Bool.true_and
abbrev qZ:=@Nat.zero_mul
abbrev vX:=@Bool.or_eq_true
abbrev J5:=@Nat.le_of_ble_eq_true
abbrev RQ:=@Array.getElem?_eq_some_iff
abbrev Bj:=@List.any_eq_true
abbrev tq:=@Nat.add_assoc
abbrev vU:=@List.mem_range
abbrev MK:=@Nat.eq_of_beq_eq_true
abbrev MJ:=@List.take_append_drop
abbrev ET:=@Bool.not_eq_true'
abbrev ES:=@List.any_eq_false
abbrev MI:=@Nat.mul_le_mul_right
abbrev Hj:=@List.ext_getElem?
abbrev ER:=@List.length_take
abbrev vT:=@Prod.mk.injEq
abbrev JX:=@Option.isSome_none
abbrev Sk:=@Int.mul_pos_of_neg_of_neg
abbrev MH:=@List.length_pos_iff
abbrev tY:=@Nat.add_zero
abbrev tX:=@List.map_nil
abbrev EP:=@List.mem_filter
abbrev MG:=@List.mem_singleton
abbrev Ey:=@Int.mul_nonneg
abbrev Hi:=@List.map_append
abbrev Hh:=@Bool.eq_iff_iff
abbrev RO:=@List.mem_iff_getElem
abbrev Sj:=@List.drop_eq_nil_of_le
abbrev MY:=@List.filter_append
abbrev MF:=@Option.getD_some
abbrev Hg:=@Bool.not_false
abbrev Ba:=@Nat.one_mul
abbrev Ew:=@Nat.sub_self
abbrev RP:=@List.set_cons_zero
abbrev zj1:=@Int.mul_nonpos_of_nonpos_of_nonneg
abbrev J4:=@Option.map_map
abbrev ML:=@Nat.min_eq_left
abbrev Xf:=@Bool.eq_false_or_eq_true
abbrev M0:=@Nat.mod_eq_of_lt
abbrev MZ:=@List.filter_cons
abbrev W9:=@decide_eq_false_iff_not
abbrev JZ:=@Bool.and_self
abbrev JY:=@Bool.and_true
abbrev RL:=@List.length_drop
abbrev zkb:=@Array.getElem?_eq_getElem
abbrev zkc:=@List.mem_of_find?_eq_some
abbrev zkd:=@List.findIdx?_eq_none_iff
abbrev Vy:=@List.length_reverse
abbrev ME:=@Bool.not_true
abbrev Ev:=@beq_iff_eq
abbrev Vx:=@List.findIdx?_cons
abbrev zki:=@Int.mul_nonpos_of_nonneg_of_nonpos
abbrev Si:=@List.mem_reverse
abbrev Vw:=@Bool.eq_false_iff
abbrev W7:=@List.mem_map_of_mem
abbrev JW:=@Nat.add_mul
abbrev Sh:=@Int.natCast_one
abbrev zko:=@List.getElem?_toArray
abbrev W6:=@Nat.lt_of_lt_of_le
abbrev MW:=@List.all_nil
abbrev MV:=@List.map_map
abbrev zks:=@List.pairwise_append
abbrev W5:=@DataW.trod_struct
abbrev Vv:=@List.length_set
abbrev Vu:=@Option.map_none
abbrev Vt:=@List.all_append
abbrev Vs:=@List.any_append
abbrev zky:=@Option.map_eq_some_iff
abbrev RJ:=@Sem.runT_fst
abbrev RN:=@Int.ofNat_lt
abbrev RM:=@Bool.or_true
abbrev MX:=@Int.mul_pos
abbrev W8:=@List.map_toArray
abbrev zk4:=@List.set_cons_succ
abbrev zk5:=@List.contains_iff_mem
abbrev zk6:=@Int.mul_neg_of_neg_of_pos
abbrev zk7:=@Int.mul_neg_of_pos_of_neg
abbrev zk8:=@List.getElem?_set
abbrev zk9:=@Array.all_eq_true_iff_forall_mem
abbrev RH:=@Nat.zero_le
abbrev zlb:=@List.mem_of_mem_take
abbrev zlc:=@List.findIdx?_append
abbrev zld:=@Option.isSome_iff_exists
abbrev zle:=@Nat.add_le_add_left
abbrev W4:=@List.drop_drop
abbrev zlg:=@Option.bind_eq_some_iff
abbrev W3:=@List.take_zero
abbrev Sf:=@Int.neg_neg
abbrev zlj:=@List.getElem?_take
abbrev zlk:=@List.length_eq_one_iff
abbrev zll:=@Nat.pos_of_ne_zero
abbrev Vq:=@Bool.or_self
abbrev Vp:=@Int.zero_mul
abbrev zlo:=@Nat.lt_or_eq_of_le
abbrev zlp:=@List.mem_zipIdx_iff_getElem?
abbrev zlq:=@Nat.not_lt_zero
abbrev zlr:=@Int.mul_eq_zero
abbrev zls:=@UInt8.toNat.inj
abbrev zlt:=@List.mem_append_right
abbrev zlu:=@List.set_append_right
abbrev zlv:=@List.length_filter_le
abbrev zlw:=@List.pairwise_reverse
abbrev zlx:=@List.pairwise_flatMap
abbrev zly:=@Nat.le_of_lt_succ
abbrev zlz:=@Nat.mul_le_mul
abbrev MD:=@and_self
abbrev zl1:=@List.set_append_left
abbrev zl2:=@List.perm_ext_iff_of_nodup
abbrev Vr:=@Int.le_refl
abbrev zl4:=@Bool.xor_false
abbrev zl5:=@Nat.lt_succ_self
abbrev zl6:=@List.getElem_inj
abbrev zl7:=@List.getElem?_zip_eq_some
abbrev zl8:=@List.getLast?_eq_getElem?
abbrev zl9:=@List.getD_cons_zero
abbrev zma:=@List.take_succ_cons
abbrev zmb:=@List.Perm.eq_of_pairwise
abbrev zmc:=@List.range_succ
abbrev Vo:=@Nat.mod_lt
abbrev zme:=@Nat.add_sub_cancel
abbrev zmf:=@Nat.lt_of_le_of_lt
abbrev zmg:=@Int.mul_nonneg_of_nonpos_of_nonpos
abbrev zmh:=@Bool.not_eq_false'
abbrev zmi:=@UInt8.toNat_ofNat'
abbrev zmj:=@List.filter_eq_nil_iff
abbrev zmk:=@List.all_eq_false
abbrev zml:=@List.append_eq_nil_iff
abbrev zmm:=@Nat.add_le_add
abbrev zmn:=@Int.le_of_lt
abbrev zmo:=@Nat.lt_trichotomy
abbrev zmp:=@Array.getElem?_modify
abbrev zmq:=@List.eq_nil_or_concat
abbrev zmr:=@Bool.and_eq_false_iff
abbrev zms:=@List.mem_iff_getElem?
abbrev zmt:=@Nat.le_of_not_lt
abbrev zmu:=@List.getElem!_eq_getElem?_getD
abbrev zmv:=@List.find?_eq_some_iff_getElem
abbrev zmw:=@Nat.lt_irrefl
abbrev zmx:=@List.range_eq_range'
abbrev zmy:=@List.mem_append_left
abbrev zmz:=@Nat.mul_one
abbrev zm0:=@Classical.not_forall
abbrev zm1:=@Nat.mul_eq_zero
abbrev zm2:=@List.find?_cons
abbrev zm3:=@List.getD_cons_succ
abbrev zm4:=@ByteArray.toList_eq
abbrev zm5:=@List.map_congr_left
abbrev zm6:=@List.filter_eq_self
abbrev zm7:=@List.getElem?_range
abbrev zm8:=@Nat.sub_zero
abbrev zm9:=@Int.mul_zero
abbrev zna:=@DataW.trod_int
abbrev znb:=@List.getElem?_drop
abbrev znc:=@Array.toList_setIfInBounds
abbrev Vn:=@true_and
abbrev zne:=@Option.toList_none
abbrev znf:=@Option.isSome_some
abbrev zng:=@Option.ne_none_iff_exists'
abbrev znh:=@Decidable.byContradiction
abbrev zni:=@not_true_eq_false
abbrev znj:=@Nat.add_mod_right
abbrev znk:=@not_false_eq_true
abbrev Se:=@Ne.symm
abbrev znm:=@List.length_range
abbrev znn:=@List.nodup_append
abbrev zno:=@Bool.or_false
abbrev znp:=@List.length_filterMap_le
abbrev znq:=@List.any_cons
abbrev znr:=@List.getElem?_take_of_lt
abbrev zns:=@Array.toList_map
abbrev znt:=@List.pairwise_mergeSort
abbrev znu:=@Nat.add_sub_cancel_left
abbrev znv:=@Option.bind_none
abbrev znw:=@Classical.axiomOfChoice
abbrev znx:=@Nat.succ_mul
abbrev zny:=@Int.sub_zero
abbrev znz:=@Int.le_total
abbrev zn0:=@Int.sub_self
abbrev zn1:=@List.find?_some
abbrev zn2:=@Int.mul_le_mul
abbrev zn3:=@List.mapM_map
end Go.Proofs
namespace Go.Proofs.YtjibdelmjcenhaaGreatDoor
def gi(xs:List Int)(k:Nat):Int:=xs.getD k 0
variable {k:Nat}
theorem Xk{xs:List Int}(h:k<xs.length):gi xs k=xs[k]:=by simp[gi,h]
namespace Gl
def script(r:Int):Int :=
 if r=32∨(39<=r/\r<=41)∨(45<=r/\r<=46)∨(48<=r/\r<=57)then 0
 else if (65<=r/\r<=90)∨(97<=r/\r<=122)∨(192<=r/\r<=591/\r≠215/\r≠247)then 1
 else if 880<=r/\r<=1023 then 2
 else if 1024<=r/\r<=1279 then 3
 else if 1488<=r/\r<=1514 then 4
 else if 19968<=r/\r<=40959 then 5
 else -1
variable {r:Int}
theorem fm(h:0<=script r):32<=r/\r<=40959:=by unfold script at h;omega
def s1(h:(65<=r/\r<=90)∨(97<=r/\r<=122)∨(192<=r/\r<=591/\r≠215/\r≠247)):script r=1:=xfe
def s2(h:880<=r/\r<=1023):script r=2:=xfe
def s3(h:1024<=r/\r<=1279):script r=3:=xfe
def los:List Int:=[32,39,45,48,65,97,192,216,248,880,1024,1488,19968]
def his:List Int:=[32,41,46,57,90,122,214,246,591,1023,1279,1514,40959]
def scs:List Int:=[0,0,0,0,1,1,1,1,1,2,3,4,5]
def lo(k:Nat):Int:=los.getD k 0
def hi(k:Nat):Int:=his.getD k 0
def sc(k:Nat):Int:=scs.getD k 0
theorem NI(r:Int)(k:Nat)(hk:k<13)(h1:lo k<=r)(h2:r<=hi k):sc k=script r:=by obtain rfl|rfl|rfl|rfl|rfl|rfl|rfl|rfl|rfl|rfl|rfl|rfl|rfl:k=0∨k=1∨k=2∨k=3∨k=4∨k=5∨k=6∨k=7∨k=8∨k=9∨k=10∨k=11∨k=12:=Z;all_goals (simp[lo,hi,sc,los,his,scs]at h1 h2 ⊢;unfold script;omega)
theorem Kx(r:Int)(h:∀ j,j<13->¬ (lo j<=r/\r<=hi j)):-1=script r:=by have a0:=h 0 Z;have a1:=h 1 Z;have a2:=h 2 Z;have a3:=h 3 Z;have a4:=h 4 Z;have a5:=h 5 Z;have a6:=h 6 Z;have a7:=h 7 Z;have a8:=h 8 Z;have a9:=h 9 Z;have a10:=h 10 Z;have a11:=h 11 Z;have a12:=h 12 Z;simp only[lo,hi,los,his,zl9,zm3]at *;exact xfe
end Gl
theorem Iw{P:Nat->Prop}(h:∀ j,j<k->¬ P j)(hk:¬ P k):∀ j,j<k+1->¬ P j:=fun j hj=>by grind
section
open Go.RowKit
theorem yF{k:IntKind}{a b:Int}(h:a=b):Ending.returned (.int k a)=.returned (.int k b):=by rw[h]
theorem Z0{a b:Bool}(h:a=b):Ending.returned (.bool a)=.returned (.bool b):=by rw[h]
def RI(w:World)(A:Option Addr)(xs:List Int):Prop :=
 ∀ k,k<xs.length->∃ b off,A=some ⟨b,off,none⟩/\b<w.heap.size/\∀ j,j<xs.length->w.cell? ⟨b,off+j,none⟩=some (.int .i64 (gi xs j))
def OI(w:World)(B:Nat)(v:Value)(xs:List Int):Prop:=w.ownsRow B 3 1 v xs.length (xs.map (Value.int .i64))
def OI.nil(w:World)(B:Nat):OI w B (.slice none 0 0) []:=⟨M,Or.inl ⟨rfl,rfl⟩⟩
variable {B:Nat}{v:Value}{xs:List Int}
theorem OI.form{w:World}(h:OI w B v xs):∃ A c,v=.slice A xs.length c/\xs.length<=c/\c<=maxLen/\RI w A xs:=by
 let⟨h1,h2⟩:=h;rcases h2 with⟨rfl,hn⟩|⟨g,cap,cur,rfl,hg,hh,hn,hm,hsz,ag7⟩
 .exact⟨none,0,by grind,Z,by grind,fun k hk=>absurd hk Z⟩
 .refine⟨_,cap,rfl,hn,hm,fun k hk=>⟨g,0,rfl,(RQ.1 hh).1,fun j hj=>?_⟩⟩;have e:cur.toList[j]?=some (.int .i64 (gi xs j)):=by
   have:(cur.toList.take (xs.length*1))[j]?=some (.int .i64 (gi xs j)):=by rw[ag7,qn,dw hj,Xk hj];rfl
   grind
  simp[World.cell?,hh];grind
variable {w':World}
theorem OI.below{w:World}{D:Nat}(h:OI w B v xs)(hb:Below D w w')(hD:w.heap.size<=D):OI w' B v xs:=by
 let⟨h1,h2⟩:=h;refine⟨h1,?_⟩;rcases h2 with h2|⟨g,cap,cur,hv,hg,hh,r⟩
 .grind
 .exact Or.inr ⟨g,cap,cur,hv,hg,(hb.block g (W6 (RQ.1 hh).1 hD)).trans hh,r⟩
def Gl.tab:Array Value:=#[.int .i32 32,.int .i32 32,.int .i64 0,.int .i32 39,.int .i32 41,.int .i64 0,.int .i32 45,.int .i32 46,.int .i64 0,.int .i32 48,.int .i32 57,.int .i64 0,
 .int .i32 65,.int .i32 90,.int .i64 1,.int .i32 97,.int .i32 122,.int .i64 1,.int .i32 192,.int .i32 214,.int .i64 1,.int .i32 216,.int .i32 246,.int .i64 1,.int .i32 248,.int .i32 591,.int .i64 1,
 .int .i32 880,.int .i32 1023,.int .i64 2,.int .i32 1024,.int .i32 1279,.int .i64 3,.int .i32 1488,.int .i32 1514,.int .i64 4,.int .i32 19968,.int .i32 40959,.int .i64 5]
def Gl.Tab(w:World):Prop:=∃ t fr,w.heap[0]?=some (.cells Gl.tab t fr)
theorem Gl.Tab.lt{w:World}(h:Gl.Tab w):0<w.heap.size:=by let⟨t,fr,h⟩:=h;grind
theorem Gl.Tab.below{w:World}(h:Gl.Tab w)(hb:Below B w w')(hB:w.heap.size<=B):Gl.Tab w':=by have hl:=h.lt;let⟨t,fr,h⟩:=h;exact⟨t,fr,(hb.block _ Z).trans h⟩
end
section
open Go Go.RowKit
variable {H:Type}
theorem zb6:∀(a:Ask H)(w:World),w.drawn<=(w.ask a).2.drawn
  |.done a,w=>cI _
  |.ask what range k,w=>by
    unfold World.ask;simp only[];split
    · exact zb6 _ _
    · exact iQ (Nat.le_succ _) (zb6 (k _) { w with drawn:=w.drawn+1 })
theorem um(w:World)(c:Sys):w.drawn<=(w.sys c).2.drawn:=by have h:=zb6 (Kernel.perform c w.os) w;unfold World.sys;grind
variable {b:Bool}{l:List Addr}{v:Value}{w':World}
theorem zdq{p:Program}{w:World}{at_:Addr}{u:TypeId}{k:Addr}(h:w.viewStore p at_ u k v b=.ok (w',l)):w'.drawn=w.drawn:=by
  unfold World.viewStore at h;simp only[bind,Except.bind,pure,Except.pure]at h;repeat' first
    |(cases h;done)
    |(injection h with h;grind)
    |split at h
theorem zew{p:Program}{w:World}{a:Addr}(h:w.farStore p a v b=.ok (w',l)):w'.drawn=w.drawn:=by
  unfold World.farStore at h;repeat' first
    |(cases h;done)
    |(rename_i heq;injection h with h;subst h;exact zdq heq)
    |split at h
def Result.world:Result H->World
  |.ok _ w=>w
  |.halt _ w=>w
theorem Z6(p:Program):∀(s:Sem H)(w:World),w.drawn<=(Result.world (s.run p w)).drawn:=by
  intro s;induction s with
  |pure a=>intro w;exact cI _
  |load m a k ih =>
    intro w;unfold Sem.run
    split
    · grind
    · split
      · grind
      · exact cI _
  |store m a v k ih =>
    intro w
    cases v<;>simp[Sem.run]
    all_goals first
      |exact cI _
      | (split
         · split
           · exact cI _
           · exact ih (w.setCell a _)
         · split
           · rename_i heq;exact iQ (Nat.le_of_eq (zew heq).symm) (ih _)
           · exact cI _)
  |new o k ih=>intro w;unfold Sem.run;grind
  |shape r k ih=>intro w;unfold Sem.run;grind
  |freeze a n k ih =>
    intro w;unfold Sem.run
    have e:(w.freeze a n).drawn=w.drawn:=by unfold World.freeze;grind
    grind
  |frozen a k ih=>intro w;unfold Sem.run;grind
  |getObj r k ih =>
    intro w;exact xd2
  |setObj r o k ih =>
    intro w;exact xd2
  |choose q k ih =>
    intro w;unfold Sem.run
    grind
  |sys c k ih=>intro w;unfold Sem.run;exact iQ (um w c) (ih _ _)
  |program k ih=>intro w;unfold Sem.run;grind
  |mark m k ih=>intro w;unfold Sem.run;grind
  |halt h=>intro w;exact cI _
variable {s:Sem H}
def z7{p:Program}{w:World}{a:H}(h:s.run p w=.ok a w'):w.drawn<=w'.drawn:=xgd
def Zf{p:Program}{w:World}{a:Halt}(h:s.run p w=.halt a w'):w.drawn<=w'.drawn:=xgd
def Up(d:Nat):GStep->Prop
  |.go _ w _=>d<=w.drawn
  |.comm _ _ _ _ w _=>d<=w.drawn
  |.spawn _ _ w _=>d<=w.drawn
  |.count _ w _=>d<=w.drawn
  |.timer _ _ w _=>d<=w.drawn
  |.alone _ _ w _=>d<=w.drawn
  |.newcoro _ _ _ w _=>d<=w.drawn
  |.coroswitch _ _ _ w _=>d<=w.drawn
  |.collect _ w _=>d<=w.drawn
  |.watch _ w _=>d<=w.drawn
  |.ended _ _ _=>True
variable {d:Nat}
theorem Up.after{s:GStep}(es:Array Event)(h:Up d s):Up d (GStep.after es s):=by cases s<;>exact h
variable {d':Nat}
theorem Up.le{s:GStep}(h:Up d s)(hd:d'<=d):Up d' s:=by cases s<;>first|exact iQ hd h|trivial
variable {a:GStep}
theorem zb7{c:Prop}[Decidable c]{b:GStep}(h1:Up d a)(h2:Up d b):Up d (if c then a else b):=by grind
theorem Jo{o:Option H}{f:H->GStep}(h1:Up d a)(h2:∀ k,Up d (f k)):Up d (o.elim a f):=by cases o<;>first|grind|grind
theorem YD(p:Program)(main:Bool)(fr:Frame)(callers:List Frame)(dying:Option Dying)(v:Value)(w:World):Up w.drawn (doReturn p main fr callers dying v w):=by
  unfold doReturn;repeat' first
    |exact cI _
    |trivial
    |split
def zc7(fr:Frame)(m:String)(w:World):Up w.drawn (endThrow fr m w):=cI _
theorem YE(p:Program)(fr:Frame)(v:Value)(w:World):Up w.drawn (endPrinting p fr v w):=by
  unfold endPrinting;simp only[];repeat' first
    |exact cI _
    |trivial
    |split
theorem zc8(p:Program)(fr:Frame)(callers:List Frame)(dying:Option Dying)(m:String)(w:World):Up w.drawn (endFatal p fr callers dying m w):=by
  unfold endFatal;simp only[];split
  · rename_i heq;exact z7 heq
  · trivial
  · trivial
theorem Qg(p:Program)(fr:Frame)(callers:List Frame)(dying:Option Dying)(g:Nat)(w:World):Up w.drawn (early p fr callers dying g w):=by
  unfold early;simp only[];repeat' first
    |exact cI _
    |trivial
    |(simp only[Up];exact z7 (by assumption))
    |(simp only[Up];exact Zf (by assumption))
    |split
theorem Ge(d:Nat)(w:World)(fd:Nat)(text:ByteArray)(o:Outcome)(h:d<=w.drawn):Up d (endWith w fd text o):=by
  have h1:=um w (.write fd text);unfold endWith;simp only[];split
  · rename_i heq;rw[heq]at h1;split<;>first|trivial|exact iQ h h1
  · first|trivial|(rename_i heq;rw[heq]at h1;exact iQ h h1)
  · first|trivial|(rename_i heq;rw[heq]at h1;exact iQ h h1)
theorem EX(p:Program)(fr:Frame)(d:Dying)(f:Fatal)(w:World):Up w.drawn (writeOn p fr d f w):=by
  unfold writeOn;simp only[];split
  · first|trivial|exact cI _
  · split;all_goals
      first
        |trivial
        | (rename_i heq
           have h:=dL Prod.fst heq
           rw[RJ]at h
           first
             |exact z7 h
             | exact Zf h)
theorem aau(p:Program)(fr:Frame)(d:Dying)(w:World):Up w.drawn (die p fr d w):=by
  unfold die;split
  · exact EX _ _ _ _ _
  · split
    · split
      · first|trivial|exact cI _
      · exact Ge _ _ _ _ _ (cI _)
    · simp only[];split
      · first|trivial|exact cI _
      · split
        · rename_i heq;exact z7 heq
        · first|trivial|(rename_i heq;exact Zf heq)
      · refine Up.after _ ?_;split;all_goals
          first
            |trivial
            |exact cI _
            |(rename_i heq;rw[RJ]at heq;exact z7 heq)
            |(rename_i heq;rw[RJ]at heq;exact Zf heq)
            |(rename_i heq;rw[RJ]at heq;exact Up.le (YE _ _ _ _) (Zf heq))
      · first|trivial|exact cI _
theorem zdr(p:Program)(fr:Frame)(callers:List Frame)(dying:Option Dying)(d:Deferred)(w:World):Up w.drawn (callDeferred p fr callers dying d w):=by
  unfold callDeferred;have h0:=Z6 p (invoke d.target d.args) w;rw[←RJ p _ w #[]]at h0;refine zb7 ?_ ?_
  · trivial
  · revert h0;generalize(invoke d.target d.args).runT p w #[]=q;let⟨r,es⟩:=q;intro h0;simp[]at h0 ⊢;refine Up.after _ ?_;split;all_goals first
      |trivial
      |exact h0
      |exact Up.le (zc8 _ _ _ _ _ _) h0
      |(split<;>first|trivial|exact h0)
theorem Ka(p:Program)(main:Bool)(fr:Frame)(callers:List Frame)(dying:Option Dying)(w:World):Up w.drawn (unwind p main fr callers dying w):=by
  unfold unwind;split
  · refine Up.after _ ?_;split
    · rename_i heq;rw[RJ]at heq;exact z7 heq
    · trivial
  · exact zdr _ _ _ _ _ _
  · split
    · trivial
    · repeat' first
        |trivial
        |exact cI _
        |(simp[Up];exact z7 (by assumption))
        |(simp[Up];exact Zf (by assumption))
        |exact YE _ _ _ _
        |split
    · split
      · exact YD _ _ _ _ _ _ _
      · refine Up.after _ ?_;split
        · rename_i heq;rw[RJ]at heq;exact Up.le (YD _ _ _ _ _ _ _) (z7 heq)
        · trivial
        · trivial
theorem za9(p:Program)(listen:Bool)(fr:Frame)(callers:List Frame)(dying:Option Dying)(s:Sem Next)(w:World):Up w.drawn (stepG.apply p listen fr callers dying s w):=by
  unfold stepG.apply;have h0:w.drawn<=(Result.world (if listen=true then s.runT p w #[]else(s.run p w,#[])).1).drawn:=by
    split
    · rw[RJ];exact Z6 p s w
    · exact Z6 p s w
  revert h0;generalize(if listen=true then s.runT p w #[]else(s.run p w,#[]))=q
  let⟨r,es⟩:=q;intro h0;simp only[]at h0 ⊢;refine Up.after _ ?_;split;all_goals first
    |trivial
    |exact h0
    |exact Up.le (zc8 _ _ _ _ _ _) h0
    |exact Up.le (Qg _ _ _ _ _ _) h0
    |exact zb7 h0 h0
    |(refine zb7 ?_ ?_<;>exact h0)
    |(split<;>first|trivial|exact h0)
theorem To(p:Program)(listen:Bool)(fr:Frame)(callers:List Frame)(dying:Option Dying)(w:World):Up w.drawn (stepG.oper p listen fr callers dying w):=by
  unfold stepG.oper;repeat' first
    |trivial
    |exact za9 _ _ _ _ _ _ _
    |split
theorem Ui(p:Program)(main listen:Bool)(fr:Frame)(callers:List Frame)(dying:Option Dying)(w:World):Up w.drawn (stepG.exec p main listen fr callers dying w):=by
  unfold stepG.exec;have hleave:∀ (jump:Option Code) (c:Prop) [Decidable c],Up w.drawn (match fr.roundOf with
      | none => if c then GStep.go { frame := { fr with mode := .returning }, callers, status := .running, dying } w else .ended (.stuck "exit, goto: no such block or label" (fr.pos p)) w
      |some l =>
        GStep.after (seen p fr.fn ((Instr.endRound l jump).runT p w #[]).2) <|match ((Instr.endRound l jump).runT p w #[]).1 with
        |.ok v w=>doReturn p main fr callers dying v w
        | .halt _ w => .ended (.stuck "range over a function: no such loop" (fr.pos p)) w) := by
    intro jump c _
    split
    · refine zb7 ?_ ?_
      · exact cI _
      · trivial
    · refine Up.after _ ?_
      split
      · rename_i heq;rw[RJ]at heq;exact Up.le (YD _ _ _ _ _ _ _) (z7 heq)
      · trivial
  simp only[];split;all_goals first
    |trivial
    |exact cI _
    |exact hleave _ _
    |exact za9 _ _ _ _ _ _ _
    |(split<;>first|trivial|exact cI _;done)
    | (refine Jo ?_ ?_
       · exact hleave _ _
       · intro k; exact cI _)
    | (refine Jo ?_ ?_
       · trivial
       · intro k; exact za9 _ _ _ _ _ _ _)
    | (refine Up.after _ ?_
       split
       all_goals
         rename_i heq
         rw[RJ]at heq
         first
           |trivial
           |exact z7 heq
           |exact Zf heq
           |exact Up.le (za9 _ _ _ _ _ _ _) (z7 heq)
       done)
    | (refine zb7 ?_ ?_
       · exact cI _
       · split
         · rename_i heq;exact z7 heq
         · trivial)
    | (refine zb7 ?_ ?_
       · exact To _ _ _ _ _ _
       · exact cI _)
theorem Nl(p:Program)(main:Bool)(g:Goroutine)(w:World)(listen:Bool):Up w.drawn (stepG p main g w listen):=by
  unfold stepG;simp[];split
  · exact aau _ _ _ _
  · exact Ui _ _ _ _ _ _ _
  · exact Ka _ _ _ _ _ _
def MUp(d:Nat):Stepped->Prop
  |.next m=>d<=m.world.drawn
  |_=>True
theorem IG(p:Program)(gs:Array Goroutine)(rest:Rest)(w:World):MUp w.drawn (look p gs rest w):=by
  unfold look;simp only[];split
  · split
    · trivial
    · split
      · trivial
      · split
        · rename_i heq;have h:=z7 heq;exact h
        · trivial
        · trivial
  · trivial
theorem zex(p:Program)(rest:Rest)(gs:Array Goroutine)(i:Nat)(g:Goroutine)(cases:Array CommCase)(blocking:Bool)(shape:CommShape)(w:World):MUp w.drawn (communicate p rest gs i g cases blocking shape w).1:=by
  unfold communicate;simp only[];split
  · trivial
  · split
    · split
      · split
        · rename_i heq;unfold waitingAt at heq;split at heq
          · split at heq
            · injection heq with heq;subst heq;exact cI _
            grind
          · injection heq with heq;subst heq;exact cI _
        · trivial
      · exact cI _
    · split
      · trivial
      · rename_i heq;have h:=z7 heq;clear heq;split
        · split
          · rename_i heq;exact iQ h (Zf heq)
          · trivial
        · exact h
        · exact h
        · split
          · exact h
          · split
            · rename_i heq;have h2:=z7 heq;exact iQ h h2
            · trivial
        all_goals first
          |trivial
          |exact h
variable {m m':Machine}
theorem E3{op:TimerOp}(h:timerOp m op=.ok (v,m')):m'.world.drawn=m.world.drawn:=by
  have hre:∀(m:Machine) k t a b,(retime m k t a b).2.world.drawn=m.world.drawn:=by intro m k t a b;unfold retime drain;grind
  have hn:∀(m0:Machine) var (f:Nat->Timer->Value×Machine) (v:Value) (m':Machine),(∀ k t,(f k t).2.world.drawn=m0.world.drawn)->timerOp.named m var f=.ok (v,m')->m'.world.drawn=m0.world.drawn:=by intro m0 var f v m' hf he;unfold timerOp.named at he;grind
  cases op with
  |new t =>
    simp[timerOp]at h
    repeat' first
      |(cases h;done)
      |(injection h with h;injection h with h1 h2;subst h2;rfl)
      |split at h
  |stop var=>simp[timerOp]at h;grind
  |reset var when period =>
    simp[timerOp]at h
    split at h
    · rename_i m1 heq
      have e:m1.world.drawn=m.world.drawn:=by unfold timerOp.opened at heq;grind
      grind
    grind
  |deadline ctx read write when =>
    simp only[timerOp]at h
    injection h with h;injection h with h1 h2;subst h2;rfl
theorem zds(p:Program)(m:Machine)(i:Nat)(listen:Bool):MUp m.world.drawn (runT p m i listen).1:=by
  unfold runT;simp only[];have h:=Nl p (i==0) (m.gs.swapAt! i { (default:Goroutine)with status:=.finished }).1 m.world listen;revert h;generalize stepG p (i==0) (m.gs.swapAt! i { (default:Goroutine)with status:=.finished }).1 m.world listen=s;intro h;cases s with
  |ended o w es=>trivial
  |comm g cases blocking shape w es =>
    have h1:=zex p m.rest (m.gs.swapAt! i { (default:Goroutine)with status:=.finished }).2 i g cases blocking shape w
    simp[]
    revert h1
    generalize(communicate p m.rest (m.gs.swapAt! i { (default:Goroutine)with status:=.finished }).2 i g cases blocking shape w).1=q
    intro h1
    exact xfr
  |collect g w es =>
    have h1:=IG p ((m.gs.swapAt! i { (default:Goroutine)with status:=.finished }).2.setIfInBounds i g) m.rest w
    simp[]
    revert h1
    generalize look p ((m.gs.swapAt! i { (default:Goroutine)with status:=.finished }).2.setIfInBounds i g) m.rest w=q
    intro h1
    exact xfr
  |count g w es =>
    simp only[]
    split
    · trivial
    · exact h
  |coroswitch g c exit w es =>
    simp[]
    split
    · exact h
    · split
      · rename_i heq
        have h2 := zc7 g.frame "coroswitch on exited coro" w
        rw[heq]at h2
        exact iQ h h2
      · trivial
    · trivial
  |timer g op w es =>
    simp[]
    split
    · rename_i heq
      exact iQ h (Nat.le_of_eq (E3 heq).symm)
    · split
      · rename_i heq
        exact iQ h (heq▸zc7 g.frame _ w:Up w.drawn (GStep.go _ _ _))
      · trivial
    · trivial
    · trivial
  |_=>exact h
def Ei(d:Nat):Move->Prop
  |.goroutine m _=>d<=m.world.drawn
  |.machine s _=>MUp d s
theorem Ei.le{s:Move}(h:Ei d s)(hd:d'<=d):Ei d' s:=by
  cases s with
  |goroutine m i=>exact iQ hd h
  |machine s ops=>cases s with
    |next m=>exact iQ hd h
    |_=>trivial
theorem NF(p:Program)(m:Machine)(k:Nat):MUp m.world.drawn (serve p m k):=by
  unfold serve;simp[];repeat' first
    |trivial
    |exact cI _
    |split
theorem zba{c:Prop}[Decidable c]{a b:Move}(h1:Ei d a)(h2:Ei d b):Ei d (if c then a else b):=by grind
theorem zey(p:Program)(m:Machine):Ei m.world.drawn (askOn p m):=by
  unfold askOn;simp only[];have C3:∀ m1:Machine,Ei m1.world.drawn (match (choose (.sched (runnable m.gs m.world.os.mono).length)).run p m1.world with
      | .halt _ w => Move.machine (.ended (.stuck "sched" "") w)
      |.ok k world =>
        if (runnable m.gs m.world.os.mono).length<=1 then .goroutine { m1 with world } ((runnable m.gs m.world.os.mono).getD k 0)else
        match (choose (.extern "sched.slice" 65536)).run p world with
        | .halt _ w => .machine (.ended (.stuck "sched.slice" "") w)
        | .ok n world=>.goroutine { m1 with world,rest:={ m1.rest with slice:=if n=0 then none else some ((runnable m.gs m.world.os.mono).getD k 0,n) } } ((runnable m.gs m.world.os.mono).getD k 0)):=by
    intro m1
    split
    · trivial
    · rename_i heq
      have h1:=z7 heq
      refine zba h1 ?_
      split
      · trivial
      · rename_i heq2
        exact iQ h1 (z7 heq2)
  split
  · trivial
  · rename_i heq;have h1:=z7 heq;clear heq;refine zba ?_ ?_
    · exact Ei.le (s:=.machine _ _) (NF p _ _) h1
    · refine Ei.le ?_ h1;split
      · split
        · exact cI _
        · refine zba ?_ ?_
          · exact cI _
          · split<;>trivial
      · split
        · exact C3 { m with world:=_ }
        · split
          · trivial
          · rename_i heq;exact Ei.le (C3 { m with world:=_ }) (z7 heq)
          · rename_i heq;have h2:=z7 heq;exact h2
          · rename_i heq;have h2:=z7 heq;exact Ei.le (C3 (Machine.advanceTo { m with world:=_ } _)) h2
theorem QZ(p:Program)(m:Machine):Ei m.world.drawn (ask p m):=by
  unfold ask;split
  · split
    · trivial
    · rename_i world heq;have h1:=z7 heq;have h2:=IG p m.gs m.rest world;split
      · rename_i heq2;rw[heq2]at h2;exact Ei.le (zey p _) (iQ h1 h2)
      · rename_i heq2;exact Ei.le (s:=.machine _ _) h2 h1
    · rename_i heq;exact Ei.le (zey p { m with world:=_ }) (z7 heq)
  · exact zey p m
theorem Tu(p:Program)(m:Machine):Ei m.world.drawn (move p m):=by
  unfold move;split
  · refine zba ?_ ?_
    · exact cI _
    · trivial
  · split
    · refine zba ?_ ?_
      · exact cI _
      · exact QZ p { m with rest:=_ }
    · exact QZ p m
theorem SG(p:Program)(m:Machine):MUp m.world.drawn (step p m):=by
  have h:=Tu p m;unfold step stepT;split
  · rename_i m1 i heq;rw[heq]at h;have h2:=zds p m1 i true;revert h2;generalize(runT p m1 i true).1=q;intro h2;cases q with
    |next m2=>exact iQ h h2
    |_=>trivial
  · rename_i heq;rw[heq]at h;exact h
theorem HQ(p:Program):∀(n:Nat)(m m':Machine),runN p n m=.next m'->m.world.drawn<=m'.world.drawn
  |0,m,m',h=>by simp[runN]at h;grind
  |n+1,m,m',h=>by
    have h1:=SG p m;simp[runN]at h;split at h
    · rename_i heq;rw[heq]at h1;exact iQ h1 (HQ p n _ _ h)
    grind
theorem Bw{p:Program}(h:Steps p m m'):m.world.drawn<=m'.world.drawn:=by let⟨n,hn⟩:=h;exact HQ p n m m' hn
variable {P:Program}{args:Array Value}{f:FuncId}
theorem QH{w:World}{R:Ending->World->Prop}(h:Calls P f args w R)(hR:∀ w',¬ R .outgrown w'):Calls P f args w fun e w'=>R e w'/\w.drawn<=w'.drawn:=by
  intro cs;let⟨e,w',fr,hr,hc,hf,hl⟩:=h cs;refine⟨e,w',fr,⟨hr,?_⟩,hc,hf,hl⟩;cases e with
  |outgrown=>grind
  |returned v=>exact Bw (m:=lone _ _ _) (m':=lone _ _ _) hc
  |panicked c=>exact Bw (m:=lone _ _ _) (m':=lone _ _ _) hc
theorem tO{w:World}(h:Below w.heap.size w w')(hd:w.drawn<=w'.drawn):∃ q os,w'=Sort.grow (w.drewN q) os:=by
  let⟨p,hp⟩:=regrown_of_below h;refine⟨p.d-w.drawn,p.os,?_⟩;have e:w'.drawn=p.d:=by rw[hp];rfl
  have e2:redrawn w p.d=w.drewN (p.d-w.drawn):=by have:w.drawn+(p.d-w.drawn)=p.d:=Z;unfold redrawn World.drewN;grind
  grind
theorem Gz{w:World}(h:Calls P f args w fun e w'=>e=.returned v/\Below w.heap.size w w') :
    Calls P f args w fun e w'=>e=.returned v/\∃ q os,w'=Sort.grow (w.drewN q) os :=
  (QH h (fun _ h=>by grind)).mono fun _ _ ⟨⟨he,hb⟩,hd⟩=>⟨he,tO hb hd⟩
end
section
open Go.ChangeShapes Go.WideShapes Go.ChangeAt Go.RowKit
theorem row_own:ownKnob Tryz.prog.godebug=none:=by kernel_rfl
theorem BR : Tryz.prog.globalNamed "mapsheets/glyph.scripts" = some 0 := by kernel_rfl
theorem wQ:(Tryz.prog.globals[0]?).map (·.type)=some 231:=by kernel_rfl
theorem tE:Tryz.prog.cellsOf 231=39:=by kernel_rfl
theorem zaj:Tryz.prog.cellsOf 230=3:=by kernel_rfl
theorem tF:Tryz.prog.cellsOf 3=1:=by kernel_rfl
theorem zeb:Tryz.prog.cellsOf 21=1:=by kernel_rfl
variable {xgt:Type}{enc:TypeId×Value->xgt}
section
variable {w:World} {base:Nat} {sp:Nat->Bool} {held:Bool}
theorem tD{fuel:Nat}{cs:List Value}{a b c:Int}{p:List MemPlace}
  (h:DataW.trod enc Tryz.prog w base sp held fuel 230 cs=some (.agg [.lit (.int .i32 a),.lit (.int .i32 b),.lit (.int .i64 c)],p)):cs=[.int .i32 a,.int .i32 b,.int .i64 c]:=by
 obtain⟨xs,n,rfl,hx,hl,hxl,hall⟩:=W5 Tryz.underlying230 h
 rw[zaj]at hl
 match xs,hxl with
 |[x0,x1,x2],_ =>
  have e:=dL Prod.fst hx
  simp at e
  obtain⟨e0,e1,e2⟩:=e
  have h0:=hall 0 _ rfl
  have h1:=hall 1 _ rfl
  have h2:=hall 2 _ rfl
  match cs,hl with
  |[v0,v1,v2],_ =>
   simp only[rH,rG]at h0 h1 h2
   obtain⟨z0,hc0,hd0,_⟩:=zna Tryz.underlying21 h0
   obtain⟨z1,hc1,R4,_⟩:=zna Tryz.underlying21 h1
   obtain⟨z2,nM,hd2,_⟩:=zna Tryz.underlying3 h2
   rw[hd0]at e0
   rw[R4]at e1
   rw[hd2]at e2
   simp[tF,zeb]at e0 e1 e2 hc0 hc1 nM
   simp[hc0,hc1,nM,e0,e1,e2]
end
theorem Ni:∀ k,k<39->([Value.int .i32 (Gl.lo (k/3)),.int .i32 (Gl.hi (k/3)),.int .i64 (Gl.sc (k/3))]:List Value)[k%3]?=Gl.tab[k]?:=by
 have e:(List.range 39).map (fun k=>([Value.int .i32 (Gl.lo (k/3)),.int .i32 (Gl.hi (k/3)),.int .i64 (Gl.sc (k/3))]:List Value)[k%3]?)=(List.range 39).map (fun k=>Gl.tab[k]?):=by kernel_rfl
 intro k hk;have:=dL (·[k]?) e;simpa[hk]using this
theorem OL:∀ i,i<13->∀ d:DataW Unit,(match (Rows.laid_mapsheets_glyph_scripts:DataW Unit)with|.agg ds=>ds[i]?|_=>none)=some d->d=.agg [.lit (.int .i32 (Gl.lo i)),.lit (.int .i32 (Gl.hi i)),.lit (.int .i64 (Gl.sc i))]:=by intro i hi d hd;have:i=0∨i=1∨i=2∨i=3∨i=4∨i=5∨i=6∨i=7∨i=8∨i=9∨i=10∨i=11∨i=12:=Z;rcases this with rfl|rfl|rfl|rfl|rfl|rfl|rfl|rfl|rfl|rfl|rfl|rfl|rfl<;>(injection hd with hd;exact hd.symm)
variable {W: World}
theorem Nh  {laid : List (String × DataW Unit)} (h : laidMet Tryz.prog laid W) (hm : ("mapsheets/glyph.scripts", Rows.laid_mapsheets_glyph_scripts) ∈ laid) : Gl.Tab W := by
 obtain⟨g,t,cs,fuel,p,hg,hty,Le,hd⟩:=Lib.laidMet.reads h hm;obtain rfl:=s6 (BR.symm.trans hg);obtain rfl:=s6 (wQ.symm.trans hty);have hrows:∀ i,i<13->(cs.toList.drop (i*3)).take 3=[.int .i32 (Gl.lo i),.int .i32 (Gl.hi i),.int .i64 (Gl.sc i)]:=by intro i hi;obtain⟨fuel',d,q,hdi,he⟩:=Lib.array_elem Tryz.underlying231 hd i hi;rw[zaj]at he;have:=OL i hi d hdi;subst this;exact tD he
 have hlen:cs.size=39:=by
  obtain⟨n,hn⟩:∃ n,fuel=n+1:=by
   cases fuel with
   |zero=>simp[DataW.trod]at hd
   |succ n=>exact⟨n,rfl⟩
  subst hn;simp only[DataW.trod,Tryz.underlying231]at hd;split at hd
  .rename_i hl;rw[tE]at hl;simpa using hl
  .cases hd
 have hcs:cs=Gl.tab:=by
  apply Array.ext_getElem?;intro k;by_cases hk:k<39
  .rw[←Ni k hk,←hrows (k/3) Z,zlj,bU Z,znb,←EA];congr 1;omega
  .rw[Array.getElem?_eq_none Z,Array.getElem?_eq_none (by show 39<=k;omega)]
 subst hcs;simp only[World.var?,BR,iD]at Le;split at Le
 .rename_i c t f hc;injection Le with Le;subst Le;exact⟨_,_,hc⟩
 .cases Le
def table  (h : laidMetH Tryz.prog [("mapsheets/glyph.scripts", Rows.laid_mapsheets_glyph_scripts)] W) : Gl.Tab W := Nh h (MG.2 rfl)
section
variable {P:Program}
theorem post_of_below{f:Func}{s:ChangeSpec}{apart fresh handsOn again:Bool}{W W':World}{args:Array Value}{v:Value}{ds gs:List (DataW xgt)}{before pa pv:List MemPlace}
  (hW:DataW.Whole enc P f.params.toList s.vars apart W args.toList ds gs before) (hb:Below W.heap.size W W')
  (hres:∀(b:Nat)(sp:Nat->Bool)(hd:Bool),DataW.TrodAll enc P W' b sp hd f.resultTypes.toList (v.resultList f.resultTypes.size) (s.fn xgt (ds++gs)).results [])
  (hargs:∀ sp:Nat->Bool,(∀ p∈before,sp p.block=true)->DataW.TrodAll enc P W' 0 sp true f.params.toList args.toList (s.fn xgt (ds++gs)).args pa)
  (hvars:∀ sp:Nat->Bool,(∀ p∈before,sp p.block=true)->DataW.TrodVars enc P W' sp s.vars (s.fn xgt (ds++gs)).vars pv)
  (hps:before=pa++pv)
  (hok:∀(j:Nat)(t:TypeId)(r:Value),f.resultTypes[j]?=some t->(v.resultList f.resultTypes.size)[j]?=some r->Value.okWide P W' .any 0 t r) :
  s.post enc P f apart fresh handsOn again W args v W':=by
 have au:=hW.lt
 have hold:∀ p∈before,(fun b=>decide (b<W.heap.size)) p.block=true:=fun p hp=>by simpa using hW.lt p hp
 refine⟨ds,gs,before,[],pa,pv,hW,hres _ _ _,hargs _ hold,hvars _ hold,World.keptBut_mono (fun p hp=>⟨hp,?_⟩) (hb.frame (·∈before)),fun _=>?_⟩
 .rw[hps,qY]at hp
  exact Or.inr hp
 .obtain⟨_,_,_,_,_,hz,hn⟩:=hW
  refine⟨hok,_,_,([]++pa)++pv,⟨[]++pa,pv,trodAll_append (hargs _ (fun _ _=>rfl)) (hres _ _ _),hvars _ (fun _ _=>rfl),rfl,?_,?_⟩,?_⟩
  .intro b off hp
   have hp':MemPlace.cell b off∈before:=by rw[hps];simpa using hp
   rw[hb.frozen (p:=⟨b,off,none⟩) (au _ hp')]
   exact hz b off hp'
  .intro ha
   have:=hn ha
   rw[hps]at this
   simpa using this
  .intro p hp _
   rw[hps]
   simpa using hp
end
noncomputable def laidWorld(os:Os):World :=
 {World.holding Tryz.prog os ⟨#[],#[],[]⟩ with heap:=(World.holding Tryz.prog os ⟨#[],#[],[]⟩).heap.modify 0 fun
   |.cells _ t frozen=>.cells Gl.tab t frozen
   | o=>o }
end
section
open Go Go.RowKit
inductive IV where
 |bool (b:Bool)
 |int (k:IntKind) (n:Int)
 |str (s:ByteArray)
 |bw
 |ptrM (l i off:Nat)
 |ptrC (cs:List IV) (off:Nat)
 |nilsl
 |slM (l i off len cap sz:Nat) (tight:Bool)
 |slC (cs:List IV) (len sz:Nat) (tight:Bool)
 |dY
 |mapM (l i:Nat)
 |cR (ks vs:List IV)
 |iX
 |fn (f:FuncId) (first cap:List IV)
 |agg (cs:List IV)
 |tuple (cs:List IV)
inductive aP where
 |free
 |gone
 |cells (c:List IV)
 |map (ks vs:List IV) (bs:List Nat) (clock:Nat)
def Pl:Type:=Nat->Nat->Option (Nat×Nat)
def jZ(I:Pl)(W:World)(k:Nat):Prop:=k<W.heap.size/\∀ l i s,I l i≠some (k,s)
def Room(W:World)(k n:Nat):Prop:=∃ c t f,W.heap[k]?=some (.cells c t f)/\n<=c.size
inductive VR(I:Pl)(W:World):IV->Value->Prop where
 |bool (b:Bool):VR I W (.bool b) (.bool b)
 |int (k:IntKind) (n:Int):VR I W (.int k n) (.int k n)
 |str (s:ByteArray):VR I W (.str s) (.string s)
 |bw:VR I W .bw (.pointer none)
 |ptrM {l i off k s:Nat} (h:I l i=some (k,s)):VR I W (.ptrM l i off) (.pointer (some ⟨k,off+s,none⟩))
 |ptrC {cs:List IV} {off k s:Nat} (f:Nat->Value) (hk:jZ I W k) (hc:∀(j:Nat)(x:IV),cs[j]?=some x->W.cell? ⟨k,j+s,none⟩=some (f j)) (hv:∀(j:Nat)(x:IV),cs[j]?=some x->VR I W x (f j)) :
   VR I W (.ptrC cs off) (.pointer (some ⟨k,off+s,none⟩))
 |nilsl:VR I W .nilsl (.slice none 0 0)
 |slM {l i off len cap sz:Nat} {tight:Bool} {k s o' cap':Nat} (h:I l i=some (k,s)) (ho:cap=0∨o'=off+s) (hl:len<=cap) (hc:cap<=cap') (ht:tight=true->cap'=cap)
   (hr:Room W k (o'+cap'*sz)):VR I W (.slM l i off len cap sz tight) (.slice (some ⟨k,o',none⟩) len cap')
 |slC {cs:List IV} {len sz:Nat} {tight:Bool} {k s cap':Nat} {ad:Addr} (f:Nat->Value) (hk:len≠0->jZ I W k) (hc:∀(j:Nat)(x:IV),cs[j]?=some x->W.cell? ⟨k,j+s,none⟩=some (f j)) (hv:∀(j:Nat)(x:IV),cs[j]?=some x->VR I W x (f j))
   (hn:cs.length=len*sz) (hl:len<=cap') (ht:tight=true->cap'=len) (ha:len≠0->ad=⟨k,s,none⟩):VR I W (.slC cs len sz tight) (.slice (some ad) len cap')
 |dY:VR I W .dY (.map none)
 |mapM {l i k s:Nat} (h:I l i=some (k,s)):VR I W (.mapM l i) (.map (some k))
 |cR {ks vs:List IV} {k:Nat} {es:Array MapEntry} {clock:Nat} (e:Nat->MapEntry) (hk:jZ I W k) (hm:W.heap[k]?=some (.map es clock)) (hn:es.size=ks.length) (hn':vs.length=ks.length)
   (he:∀(j:Nat),j<ks.length->es[j]?=some (e j)) (hkv:∀(j:Nat)(x:IV),ks[j]?=some x->VR I W x (e j).key) (RY:∀(j:Nat)(x:IV),vs[j]?=some x->VR I W x (e j).val):VR I W (.cR ks vs) (.map (some k))
 |iX:VR I W .iX .nilFunc
 |fn {f:FuncId} {first cap:List IV} {first' cap':Array Value} (n1:first.length=first'.size) (n2:cap.length=cap'.size) (h1:∀(j:Nat)(x:IV)(y:Value),first[j]?=some x->first'[j]?=some y->VR I W x y)
   (h2:∀(j:Nat)(x:IV)(y:Value),cap[j]?=some x->cap'[j]?=some y->VR I W x y):VR I W (.fn f first cap) (.func (.func f) first' cap')
 |agg {cs:List IV} {ws:Array Value} (n:cs.length=ws.size) (h:∀(j:Nat)(x:IV)(y:Value),cs[j]?=some x->ws[j]?=some y->VR I W x y):VR I W (.agg cs) (.agg ws)
 |tuple {cs:List IV} {ws:Array Value} (n:cs.length=ws.size) (h:∀(j:Nat)(x:IV)(y:Value),cs[j]?=some x->ws[j]?=some y->VR I W x y):VR I W (.tuple cs) (.tuple ws)
structure Ext(I:Pl)(W:World)(β':Pl)(W':World):Prop where
 keep:∀ l i p,I l i=some p->β' l i=some p
 fresh:∀ l i k s,β' l i=some (k,s)->(∃ l' i' s',I l' i'=some (k,s'))∨W.heap.size<=k
 block:∀ k,k<W.heap.size->(∀ l i s,I l i≠some (k,s))->W'.heap[k]?=W.heap[k]?
 size:W.heap.size<=W'.heap.size
 rows:∀(k:Nat)(c:Array Value)(t:TypeId)(f:Nat×Nat),W.heap[k]?=some (.cells c t f)->∃ c2,W'.heap[k]?=some (.cells c2 t f)/\c2.size=c.size
variable {I β':Pl}{W W':World}{k n:Nat}
def Room.ext(h:Room W k n)(e:Ext I W β' W'):Room W' k n :=
 let⟨c,t,f,h1,h2⟩:=h;let⟨c2,h3,h4⟩:=e.rows k c t f h1;⟨c2,t,f,h3,h4▸h2⟩
def jZ.ext(h:jZ I W k)(e:Ext I W β' W'):jZ β' W' k :=
 ⟨W6 h.1 e.size,fun l i s hb=>(e.fresh l i k s hb).elim (fun⟨l',i',s',hb'⟩=>h.2 l' i' s' hb') (fun hs=>absurd h.1 (Nat.not_lt.2 hs))⟩
theorem tU(h:W'.heap[k]?=W.heap[k]?)(j:Nat)(o:Option Nat):W'.cell? ⟨k,j,o⟩=W.cell? ⟨k,j,o⟩:=by unfold World.cell?;grind
def jZ.cell(h:jZ I W k)(e:Ext I W β' W')(j:Nat):W'.cell? ⟨k,j,none⟩=W.cell? ⟨k,j,none⟩ :=
 tU (e.block k h.1 h.2) j none
variable {v:IV}
theorem VR.ext(e:Ext I W β' W'){x:Value}(h:VR I W v x):VR β' W' v x:=by
 induction h with
 |bool b=>exact .bool b
 |int k n=>exact .int k n
 |str s=>exact .str s
 |bw=>exact .bw
 |ptrM h=>exact .ptrM (e.keep _ _ _ h)
 |ptrC f hk hc _ ih=>exact .ptrC f (hk.ext e) (fun j x hx=>(hk.cell e _).trans (hc j x hx)) ih
 |nilsl=>exact .nilsl
 |slM h ho hl hc ht hr=>exact .slM (e.keep _ _ _ h) ho hl hc ht (hr.ext e)
 |slC f hk hc _ hn hl ht ha ih =>
  refine .slC f (fun hne=>(hk hne).ext e) (fun j x hx=>((hk (fun h=>?_)).cell e _).trans (hc j x hx)) ih hn hl ht ha
  grind
 |dY=>exact .dY
 |mapM h=>exact .mapM (e.keep _ _ _ h)
 |cR en hk hm hn hn' he _ _ ih1 ih2=>exact .cR en (hk.ext e) ((e.block _ hk.1 hk.2).trans hm) hn hn' he ih1 ih2
 |iX=>exact .iX
 |fn n1 n2 _ _ ih1 ih2=>exact .fn n1 n2 ih1 ih2
 |agg n _ ih=>exact .agg n ih
 |tuple n _ ih=>exact .tuple n ih
structure Fr(d:Nat)(I:Pl)(W:World)(β':Pl)(W':World):Prop where
 keep:∀ l i p,I l i=some p->β' l i=some p
 fresh:∀ l i k s,β' l i=some (k,s)->I l i=some (k,s)∨(l=d/\((∃ i' s',I d i'=some (k,s'))∨W.heap.size<=k))
 block:∀ k,k<W.heap.size->(∀ i s,I d i≠some (k,s))->W'.heap[k]?=W.heap[k]?
 size:W.heap.size<=W'.heap.size
 rows:∀(k:Nat)(c:Array Value)(t:TypeId)(f:Nat×Nat),W.heap[k]?=some (.cells c t f)->∃ c2,W'.heap[k]?=some (.cells c2 t f)/\c2.size=c.size
 os:W'.os=W.os
 tape:W'.tape=W.tape
 output:W'.output=W.output
variable {d:Nat}
def Fr.ext(h:Fr d I W β' W'):Ext I W β' W' :=
 ⟨h.keep,fun l i k s hb=>(h.fresh l i k s hb).elim (fun h=>.inl ⟨l,i,s,h⟩) (fun⟨_,h⟩=>h.imp (fun⟨i',s',h⟩=>⟨d,i',s',h⟩) id),fun k hk hn=>h.block k hk (hn d),h.size,h.rows⟩
def Fr.refl(d:Nat)(I:Pl)(W:World):Fr d I W I W:=xct
theorem Fr.trans{β1 β2:Pl}{W1 W2:World}(h:Fr d I W β1 W1)(h':Fr d β1 W1 β2 W2):Fr d I W β2 W2 where
 keep l i p hb:=h'.keep l i p (h.keep l i p hb)
 fresh l i k s hb:=by
  rcases h'.fresh l i k s hb with hb|⟨rfl,⟨i',s',hb⟩|hk⟩
  .exact h.fresh l i k s hb
  .refine .inr ⟨rfl,?_⟩;rcases h.fresh _ _ _ _ hb with hb|⟨_,hb⟩
   .grind
   omega
  .exact .inr ⟨rfl,.inr (iQ h.size hk)⟩
 block k hk hn:=by
  refine(h'.block k (W6 hk h.size) fun i s hb=>?_).trans (h.block k hk hn);rcases h.fresh _ _ _ _ hb with hb|⟨_,⟨i',s',hb⟩|hs⟩
  .grind
  .grind
  omega
 size:=iQ h.size h'.size
 rows k c t f hc:=by let⟨c1,h1,e1⟩:=h.rows k c t f hc;let⟨c2,h2,e2⟩:=h'.rows k c1 t f h1;grind
 os:=h'.os.trans h.os
 tape:=h'.tape.trans h.tape
 output:=h'.output.trans h.output
def Fr.below(h:Fr d I W β' W')(hn:∀ i p,I d i≠some p):Below W.heap.size W W' :=
 ⟨h.os,h.tape,h.output,h.size,fun k hk=>h.block k hk (fun i s=>hn i (k,s))⟩
def OR(I:Pl)(W:World)(k s:Nat):aP->Prop
 |.free=>False
 |.gone=>True
 |.cells c=>∃ c' t,W.heap[k]?=some (.cells c' t (0,0))/\∀(j:Nat)(x:IV),c[j]?=some x->∃ y,c'[j+s]?=some y/\VR I W x y
 |.map ks vs bs clock=>∃ es,W.heap[k]?=some (.map es clock)/\ks.length=es.size/\vs.length=es.size/\bs.length=es.size /\
   ∀(j:Nat)(e:MapEntry),es[j]?=some e->(∀ x,ks[j]?=some x->VR I W x e.key)/\(∀ x,vs[j]?=some x->VR I W x e.val)/\(∀ x,bs[j]?=some x->e.born=x)
def aP.live:aP->Bool
 |.cells _=>true
 |.map ..=>true
 |_=>false
structure RS(I:Pl)(get:Nat->Nat->Option aP)(W:World):Prop where
 obj:∀ l i k s o,I l i=some (k,s)->get l i=some o->OR I W k s o
 one:∀ l i l' i' k s s' o o',I l i=some (k,s)->I l' i'=some (k,s')->get l i=some o->get l' i'=some o'->o.live=true->o'.live=true->l=l'/\i=i'
 here:∀ l i k s,I l i=some (k,s)->k<W.heap.size
 has:∀ l i o,get l i=some o->o.live=true->∃ p,I l i=some p
 dom:∀ l i p,I l i=some p->∃ o,get l i=some o
inductive bD where
 |tmp (t:Nat)
 |const (v:IV)
inductive j5 where
 |mov (x:bD)
 |nilchk (x:bD)
 |pick (c a b:bD)
 |newv (cs:List IV) (slot:Nat)
 |box (x:bD) (slot:Nat)
 |build (zero:List IV) (parts:List (Nat×Nat×bD))
 |bslice (zero:List IV) (sz len:Nat) (parts:List (Nat×Nat×bD))
 |mslice (zero:List IV) (sz len:Nat) (parts:List (Nat×Nat×bD)) (slot:Nat)
 |load (agg:Bool) (n:Nat) (x:bD)
 |store (n:Nat) (x v:bD)
 |bin (op:BinOp) (x y:bD)
 |eqagg (neg:Bool) (ks:List Nat) (x y:bD)
 |eqb (neg:Bool) (x y:bD)
 |eqp (neg:Bool) (x y:bD)
 |eqs (neg:Bool) (x y:bD)
 |un (op:UnOp) (x:bD)
 |conv (k:IntKind) (x:bD)
 |mkfn (f:FuncId) (first cap:List bD)
 |mkmap (slot:Nat)
 |slice (sz:Nat) (x:bD) (lo hi mx:Option bD)
 |faddr (off:Nat) (x:bD)
 |iaddr (sz:Nat) (x ix:bD)
 |index (agg:Bool) (sz len:Nat) (x ix:bD)
 |indexS (x ix:bD)
 |lookup (zero:IV) (kt:Bool×List Nat) (ok:Bool) (x ix:bD)
 |mapupd (kt:Bool×List Nat) (m k v:bD)
 |extract (x:bD) (i:Nat)
 |call (f:bD) (args:List bD) (slot:Nat)
 |append (zero:List IV) (sz:Nat) (eM:Bool) (s x:bD) (slot:Nat)
 |len (k:Nat) (x:bD)
 |mx (isMax:Bool) (x y:bD)
 |cap (x:bD)
 |clr (zero:List IV) (sz:Nat) (x:bD)
 |cpy (sz:Nat) (x y:bD)
 |mks (zero:List IV) (sz:Nat) (n m:bD) (slot:Nat)
 |fail
inductive dI where
 |p
 |r
 |rl (l i o n:Nat)
 |a
 |w (l i o n:Nat)
 |k (i s:Nat)
 |x
structure cg where
 dst:Option Nat
 op:j5
 guard:Option (Nat×Bool)
 vis:List Nat
inductive IC where
 |skip
 |ret
 |exit (id:Nat)
 |seq (a b:IC)
 |cond (c:bD) (a b:IC)
 |block (id:Nat) (a:IC)
 |loop (a:IC)
 |region (drawn:Bool) (slots:Nat) (ops:List cg) (free:List (Nat×Nat))
inductive mY where
 |tmp (t:Nat)
 |cell (agg:Bool) (n t:Nat)
structure gP where
 ntmps:Nat
 res:List mY
 body:IC
 mode:Nat
structure St where
 t:List IV
 aa:List aP
inductive Out where
 |normal
 |exit (id:Nat)
 |ret
abbrev jI:Type:=Option (dI×IV×List aP)
abbrev Call:Type:=Nat->(Nat->List aP)->List aP->List aP->Nat->FuncId->List IV->jI
def IV.cells:IV->List IV
 |.agg cs=>cs
 |v=>[v]
def IV.scalar:IV->Bool
 |.agg _=>false
 |.tuple _=>false
 |_=>true
variable {H:Type}
noncomputable def aet{I:Type}(l:List H):(List H->I)->I:=List.rec (motive:=fun _=>(List H->I)->I) (fun k=>k []) (fun x _ ih k=>ih fun ys=>k (x::ys)) l
noncomputable def lit(l:List H):List H:=aet l fun ys=>ys
theorem IK{H I:Type}:∀(l:List H)(k:List H->I),aet l k=k l
 |[],_=>rfl
 |x::xs,k=>IK xs fun ys=>k (x::ys)
def zi(l:List H):lit l=l:=IK l _
noncomputable def ael{I:Type}(l:List H):Nat->H->(List H->I)->I :=
 List.rec (motive:=fun _=>Nat->H->(List H->I)->I) (fun _ _ k=>k []) (fun x xs ih i v k=>Nat.rec (motive:=fun _=>I) (k (v::xs)) (fun i _=>ih i v fun ys=>k (x::ys)) i) l
theorem Ie{H I:Type}:∀(l:List H)(i:Nat)(v:H)(k:List H->I),ael l i v k=k (l.set i v)
 |[],_,_,_=>rfl
 |_::_,0,_,_=>rfl
 |x::xs,i+1,v,k=>Ie xs i v fun ys=>k (x::ys)
noncomputable def pE(z:H)(l:List H):Nat->H :=
 List.rec (motive:=fun _=>Nat->H) (fun _=>z) (fun x _ ih i=>Nat.rec (motive:=fun _=>H) x (fun i _=>ih i) i) l
theorem yc{H:Type}(z:H):∀(l:List H)(i:Nat),pE z l i=l.getD i z
 |[],_=>rfl
 |_::_,0=>rfl
 |_::xs,i+1=>(yc z xs i).trans M
noncomputable def look(d:Nat)(ah:Nat->List aP)(aa:List aP)(l i:Nat):Option aP:=if l=d then aa[i]? else if l<d then(ah l)[i]? else none
noncomputable def bB(c:List IV)(off:Nat):Nat->Option (List IV)
 |0=>some []
 |n+1=>match c[off]? with
  |some x=>(bB c (off+1) n).map (x::·)
  |none=>none
noncomputable def ql(agg:Bool)(xs:List IV):Option IV:=if agg then some (.agg xs)else match xs with|[x]=>some x|_=>none
noncomputable def dS(c:List IV)(off:Nat):List IV->List IV
 |[]=>c
 |v::vs=>dS (c.set off v) (off+1) vs
noncomputable def seg(c:List IV)(off n:Nat):Option (List IV):=if off+n<=c.length then some (lit ((c.drop off).take n))else none
def bs(l:List Nat):ByteArray:=⟨(l.map UInt8.ofNat).toArray⟩
noncomputable def rep(zero:List IV):Nat->List IV
 |0=>[]
 |n+1=>zero++rep zero n
noncomputable def ρ(t:List IV):bD->IV
 |.tmp i=>pE (.tuple []) t i
 |.const v=>v
noncomputable def put(t:List IV)(dst:Option Nat)(v:IV):List IV:=match dst with|some i=>ael t i v fun ys=>ys|none=>t
def ye(t:List IV)(i:Nat)(v:IV):put t (some i) v=t.set i v:=Ie t i v _
def Cg(t:List IV)(v:IV):put t none v=t:=rfl
def ρahf(t:List IV)(i:Nat):ρ t (.tmp i)=t.getD i (.tuple []):=yc _ t i
def ρRr(t:List IV)(v:IV):ρ t (.const v)=v:=rfl
noncomputable def dX(t:List IV)(c:List IV):List (Nat×Nat×bD)->Option (List IV)
 |[]=>some c
 |(off,n,x)::rest=>if (ρ t x).cells.length=n/\off+n<=c.length then dX t (lit (dS c off (ρ t x).cells)) rest else none
noncomputable def aT(k:IntKind)(n:Int):Int:=match k,n with
 |.i64,.ofNat m=>bif Nat.blt m 9223372036854775808 then .ofNat m else IntKind.wrap .i64 (.ofNat m)
 |.i64,.negSucc m=>bif Nat.blt m 9223372036854775808 then .negSucc m else IntKind.wrap .i64 (.negSucc m)
 |k,n=>k.wrap n
theorem TK(m:Nat)(h:Nat.blt m 9223372036854775808=true):IntKind.i64.wrap (Int.ofNat m)=Int.ofNat m :=
 IntWalk.i64_in _ (by have:=Nat.blt_eq▸h;grind)
theorem TJ(m:Nat)(h:Nat.blt m 9223372036854775808=true):IntKind.i64.wrap (Int.negSucc m)=Int.negSucc m :=
 IntWalk.i64_in _ (by have:=Nat.blt_eq▸h;grind)
theorem z6(k:IntKind)(n:Int):aT k n=k.wrap n:=by
 cases k;case i64 =>
  cases n with
  |ofNat m =>
   show(bif Nat.blt m 9223372036854775808 then Int.ofNat m else _)=_
   rcases Xf (Nat.blt m 9223372036854775808)with h|h
   .rw[h,bV,TK m h]
   grind
  |negSucc m =>
   show(bif Nat.blt m 9223372036854775808 then Int.negSucc m else _)=_
   rcases Xf (Nat.blt m 9223372036854775808)with h|h
   .rw[h,bV,TJ m h]
   grind
 all_goals rfl
noncomputable def bA(op:BinOp)(k:IntKind)(a b:Int):Option IV :=
 match op with
 |.add=>some (.int k (aT k (a+b)))
 |.sub=>some (.int k (aT k (a-b)))
 |.mul=>some (.int k (aT k (a*b)))
 |.quo=>if b=0 then none else some (.int k (aT k (a.tdiv b)))
 |.rem=>if b=0 then none else some (.int k (a.tmod b))
 |.and=>some (.int k (k.wrap (BitVec.ofInt k.bits a &&& BitVec.ofInt k.bits b).toNat))
 | .or=>some (.int k (k.wrap (BitVec.ofInt k.bits a ||| BitVec.ofInt k.bits b).toNat))
 |.xor=>some (.int k (k.wrap (BitVec.ofInt k.bits a ^^^ BitVec.ofInt k.bits b).toNat))
 |.eql=>some (.bool (a==b))
 |.neq=>some (.bool (a != b))
 |.lss=>some (.bool (decide (a<b)))
 |.leq=>some (.bool (decide (a<=b)))
 |.gtr=>some (.bool (decide (a>b)))
 |.geq=>some (.bool (decide (a≥b)))
 |_=>none
noncomputable def mE(op:BinOp)(x y:ByteArray):Option IV :=
 match op with
 |.eql=>some (.bool (x.toList==y.toList))
 |.neq=>some (.bool (!(x.toList==y.toList)))
 |.lss=>some (.bool (Op.bytesLess x.toList y.toList))
 | .leq=>some (.bool (Op.bytesLess x.toList y.toList||x.toList==y.toList))
 | .gtr=>some (.bool (!(Op.bytesLess x.toList y.toList||x.toList==y.toList)))
 |.geq=>some (.bool (!(Op.bytesLess x.toList y.toList)))
 |_=>none
noncomputable def Fc(op:BinOp)(k:IntKind)(a b:Int):Option IV :=
 if b<0 then none else
 match op with
 |.shl=>some (.int k (aT k (a*2 ^ (min b.toNat k.bits))))
 |.shr=>some (.int k (a.fdiv (2 ^ (min b.toNat k.bits))))
 |_=>none
noncomputable def dh:BinOp->Bool
 |.shl=>true
 |.shr=>true
 |_=>false
noncomputable def lX(op:BinOp)(x y:IV):Option IV :=
 match x,y with
 |.int k a,.int k' b=>if dh op then Fc op k a b else if k=k' then bA op k a b else none
 |.str a,.str b=>mE op a b
 |_,_=>none
noncomputable def Gd(x y:IV):Option Bool :=
 match x,y with
 |.bool a,.bool b=>some (a==b)
 |_,_=>none
noncomputable def jX(x y:IV):Option Bool :=
 match x,y with
 |.bw,.bw=>some true
 |.bw,.ptrM ..=>some false
 |.bw,.ptrC ..=>some false
 |.ptrM ..,.bw=>some false
 |.ptrC ..,.bw=>some false
 |_,_=>none
noncomputable def Lx(x y:IV):Option Bool :=
 match x,y with
 |.nilsl,.nilsl=>some true
 |.nilsl,.slM ..=>some false
 |.nilsl,.slC ..=>some false
 |.slM ..,.nilsl=>some false
 |.slC ..,.nilsl=>some false
 |_,_=>none
noncomputable def eqv(k:Nat)(x y:IV):Option Bool :=
 match x,y with
 |.int a m,.int b n=>if k=1/\a=b then some (m==n)else none
 |.str m,.str n=>if k=2 then some (m.toList==n.toList)else none
 |.bool m,.bool n=>if k=0 then some (m==n)else none
 |_,_=>none
noncomputable def eR:List Nat->List IV->List IV->Option Bool
 |[],[],[]=>some true
 |k::ks,x::xs,y::ys=>match eqv k x y with
  |some true=>eR ks xs ys
  |some false=>match eR ks xs ys with|some _=>some false|none=>none
  |none=>none
 |_,_,_=>none
noncomputable def jV(ag:Bool)(v:IV):Bool:=if ag then(match v with|.agg _=>true|_=>false)else v.scalar
noncomputable def MT(kt:Bool×List Nat)(x y:IV):Option Bool:=if jV kt.1 x&&jV kt.1 y then eR kt.2 x.cells y.cells else none
noncomputable def Bs(op:UnOp)(x:IV):Option IV :=
 match op,x with
 |.neg,.int k n=>some (.int k (aT k (0-n)))
 |.not,.bool b=>some (.bool (!b))
 |_,_=>none
noncomputable def lg:IV->Option Nat
 |.int _ n=>if 0<=n then some n.toNat else none
 |_=>none
noncomputable def kI(t:List IV)(dflt:Nat):Option bD->Option Nat
 |none=>some dflt
 |some x=>lg (ρ t x)
noncomputable def dA(sz:Nat)(t:List IV)(v:IV)(lo hi mx:Option bD):Option IV :=
 match v with
 |.nilsl=>match kI t 0 lo,kI t 0 hi,kI t 0 mx with
  |some l,some h,some m=>if m<=0/\h<=m/\l<=h then some .nilsl else none
  |_,_,_=>none
 |.slM lv i off len cap sz0 tight=>match kI t 0 lo,kI t len hi,kI t cap mx with
  | some l,some h,some m=>if (m<=cap/\h<=m/\l<=h)/\sz0=sz then some (.slM lv i (off+l*sz) (h-l) (m-l) sz (mx.isSome||tight))else none
  |_,_,_=>none
 |.slC cs len sz0 tight=>match kI t 0 lo,kI t len hi,kI t len mx with
  |some l,some h,some m=>if (m<=len/\h<=m/\l<=h)/\sz0=sz then some (.slC (lit ((cs.drop (l*sz)).take ((h-l)*sz))) (h-l) sz (if mx.isSome then m==h else tight&&h==len))else none
  |_,_,_=>none
 |_=>none
noncomputable def eY(kt:Bool×List Nat)(key:IV):List IV->Nat->Option (Option Nat)
 |[],_=>some none
 |k::ks,i=>match MT kt key k with
  |some true=>some (some i)
  |some false=>eY kt key ks (i+1)
  |none=>none
noncomputable def lC(kt:Bool×List Nat)(key:IV)(ks vs:List IV):Option (Option IV) :=
 if jV kt.1 key&&key.cells.length==kt.2.length then
  match eY kt key ks 0 with
  |some (some j)=>(vs[j]?).map some
  |some none=>some none
  |none=>none
 else none
noncomputable def bW(lk:Nat->Nat->Option aP)(sz:Nat):IV->Option (List IV×Nat)
 |.nilsl=>some ([],0)
 |.slC cs len _ _=>(seg cs 0 (len*sz)).map (·,len)
 |.slM l i off len _ _ _=>match lk l i with
  |some (.cells c)=>(seg c off (len*sz)).map (·,len)
  |_=>none
 |_=>none
noncomputable def bound:Nat:=2 ^ 30
noncomputable def dD(aa:List aP)(id:Nat)(o:aP)(v:IV):jI :=
 match aa[id]? with
 |some .free=>some (.a,v,lit (aa.set id o))
 |_=>none
noncomputable def iG(aa:List aP)(i id:Nat)(o:aP)(v:IV):jI :=
 match aa[id]? with
 |some .free=>some (.k i id,v,lit ((aa.set i .gone).set id o))
 |_=>none
noncomputable def aY(d n0:Nat)(lk:Nat->Nat->Option aP)(aa:List aP)(sz:Nat)(s:IV)(new:List IV)(n slot:Nat):jI :=
 if n=0 then (match s with
  |.nilsl=>some (.r,.nilsl,aa)
  |.slC cs len sz0 tight=>some (.r,.slC cs len sz0 tight,aa)
  |.slM l i off len cap sz0 tight=>some (.r,.slM l i off len cap sz0 tight,aa)
  | _=>none) else
 match s with
 |.nilsl=>if n<=bound then dD aa (n0+slot) (.cells new) (.slM d (n0+slot) 0 n n sz false)else none
 |.slC cs len _ tight=>if len+n<=bound/\tight=true then
   match seg cs 0 (len*sz)with
   |some old=>dD aa (n0+slot) (.cells (lit (old++new))) (.slM d (n0+slot) 0 (len+n) (len+n) sz false)
   |none=>none
  else none
 |.slM l i off len cap sz0 tight=>if len+n<=bound/\sz0=sz then
   match lk l i with
   |some (.cells c) =>
    if len+n<=cap then
     if l=d/\off+(len+n)*sz<=c.length/\new.all IV.scalar=true then some (.x,.slM l i off (len+n) cap sz tight,lit (aa.set i (.cells (lit (dS c (off+len*sz) new)))))else none
    else match seg c off (len*sz)with
     |some old=>if tight then dD aa (n0+slot) (.cells (lit (old++new))) (.slM d (n0+slot) 0 (len+n) (len+n) sz false)
       else if l=d/\new.all IV.scalar=true then iG aa i (n0+slot) (.cells (lit (old++new))) (.slM d (n0+slot) 0 (len+n) (len+n) sz false)else none
     |none=>none
   |_=>none
  else none
 |_=>none
noncomputable def ef(aa:List aP)(t:List IV)(x:bD):jI :=
 match ρ t x with
  |.ptrM l i o=>some (.p,.ptrM l i o,aa)
  |.ptrC cs o=>some (.p,.ptrC cs o,aa)
  |.fn f a b=>some (.p,.fn f a b,aa)
  |_=>none
noncomputable def gZ(aa:List aP)(t:List IV)(c:bD)(a:bD)(b:bD):jI :=
 match ρ t c with
  |.bool true=>some (.p,ρ t a,aa)
  |.bool false=>some (.p,ρ t b,aa)
  |_=>none
noncomputable def Gh(d:Nat)(n0:Nat)(aa:List aP)(cs:List IV)(slot:Nat):jI :=
 dD aa (n0+slot) (.cells cs) (.ptrM d (n0+slot) 0)
noncomputable def kr(d:Nat)(n0:Nat)(aa:List aP)(t:List IV)(x:bD)(slot:Nat):jI :=
 if (ρ t x).cells.all IV.scalar then dD aa (n0+slot) (.cells (ρ t x).cells) (.ptrM d (n0+slot) 0)else none
noncomputable def e8(aa:List aP)(t:List IV)(zero:List IV)(sz:Nat)(len:Nat)(parts:List (Nat×Nat×bD)):jI :=
 (dX t (rep zero len) parts).map fun c=>(.p,.slC c len sz true,aa)
noncomputable def fZ(d:Nat)(n0:Nat)(aa:List aP)(t:List IV)(zero:List IV)(sz:Nat)(len:Nat)(parts:List (Nat×Nat×bD))(slot:Nat):jI :=
 match dX t (rep zero len) parts with
  |some c=>if c.all IV.scalar then dD aa (n0+slot) (.cells c) (.slM d (n0+slot) 0 len len sz false)else none
  |none=>none
noncomputable def ig(d:Nat)(ah:Nat->List aP)(aJ:List aP)(aa:List aP)(t:List IV)(agg:Bool)(n:Nat)(x:bD):jI :=
 match ρ t x with
  |.ptrM l i off=>match look d ah aJ l i with
   |some (.cells c)=>((bB c off n).bind (ql agg)).map fun v=>(.rl l i off n,v,aa)
   |_=>none
  |.ptrC cs off=>((bB cs off n).bind (ql agg)).map fun v=>(.p,v,aa)
  |_=>none
noncomputable def fG(d:Nat)(aa:List aP)(t:List IV)(n:Nat)(x:bD)(v:bD):jI :=
 match ρ t x with
  |.ptrM l i off=>match aa[i]? with
   |some (.cells c)=>if l=d/\(ρ t v).cells.length=n/\off+n<=c.length/\(ρ t v).cells.all IV.scalar then some (.w l i off n,.tuple [],lit (aa.set i (.cells (lit (dS c off (ρ t v).cells)))))else none
   |_=>none
  |_=>none
noncomputable def fI(aa:List aP)(t:List IV)(neg:Bool)(ks:List Nat)(x:bD)(y:bD):jI :=
 match ρ t x,ρ t y with
  |.agg a,.agg b=>(eR ks a b).map fun v=>(.p,.bool (neg != v),aa)
  |_,_=>none
noncomputable def jy(aa:List aP)(t:List IV)(neg:Bool)(x:bD)(y:bD):jI :=
 (Gd (ρ t x) (ρ t y)).map fun v=>(.p,.bool (neg != v),aa)
noncomputable def lE(aa:List aP)(t:List IV)(neg:Bool)(x:bD)(y:bD):jI :=
 (jX (ρ t x) (ρ t y)).map fun v=>(.p,.bool (neg != v),aa)
noncomputable def lD(aa:List aP)(t:List IV)(neg:Bool)(x:bD)(y:bD):jI :=
 (Lx (ρ t x) (ρ t y)).map fun v=>(.p,.bool (neg != v),aa)
noncomputable def ij(aa:List aP)(t:List IV)(k:IntKind)(x:bD):jI :=
 match ρ t x with
  |.int _ n=>some (.p,.int k (aT k n),aa)
  |_=>none
noncomputable def Am(d:Nat)(n0:Nat)(aa:List aP)(slot:Nat):jI :=
 dD aa (n0+slot) (.map [] [] [] 0) (.mapM d (n0+slot))
noncomputable def fH(aa:List aP)(t:List IV)(off:Nat)(x:bD):jI :=
 match ρ t x with
  |.ptrM l i o=>some (.p,.ptrM l i (o+off),aa)
  |.ptrC cs o=>some (.p,.ptrC cs (o+off),aa)
  |_=>none
noncomputable def mM(aa:List aP)(t:List IV)(sz:Nat)(x:bD)(ix:bD):jI :=
 match ρ t x,lg (ρ t ix)with
  |.slM l i off len _ _ _,some j=>if j<len then some (.p,.ptrM l i (off+j*sz),aa)else none
  |.slC cs len _ _,some j=>if j<len then some (.p,.ptrC cs (j*sz),aa)else none
  |_,_=>none
noncomputable def cE(aa:List aP)(t:List IV)(agg:Bool)(sz:Nat)(len:Nat)(x:bD)(ix:bD):jI :=
 match ρ t x,lg (ρ t ix)with
  |.agg cs,some j=>if j<len then((bB cs (j*sz) sz).bind (ql agg)).map fun v=>(.p,v,aa)else none
  |_,_=>none
noncomputable def kZ(aa:List aP)(t:List IV)(x:bD)(ix:bD):jI :=
 match ρ t x,lg (ρ t ix)with
  |.str s,some j=>match s[j]? with
   |some b=>some (.p,.int .u8 b.toNat,aa)
   |none=>none
  |_,_=>none
noncomputable def e7(d:Nat)(ah:Nat->List aP)(aJ:List aP)(aa:List aP)(t:List IV)(zero:IV)(kt:Bool×List Nat)(ok:Bool)(x:bD)(ix:bD):jI :=
 let r:Option (dI×Option IV):=match ρ t x with
   |.dY=>(lC kt (ρ t ix) [] []).map (dI.p,·)
   |.cR ks vs=>(lC kt (ρ t ix) ks vs).map (dI.p,·)
   |.mapM l i=>match look d ah aJ l i with
    |some (.map ks vs _ _)=>(lC kt (ρ t ix) ks vs).map (dI.r,·)
    |_=>none
   |_=>none
  r.map fun(e,v)=>(e,if ok then .tuple [v.getD zero,.bool v.isSome]else v.getD zero,aa)
noncomputable def fL(d:Nat)(aa:List aP)(t:List IV)(kt:Bool×List Nat)(m:bD)(k:bD)(v:bD):jI :=
 match ρ t m with
  |.mapM l i=>match aa[i]? with
   |some (.map ks vs bs clock)=>if l=d/\(jV kt.1 (ρ t k)&&(ρ t k).cells.length==kt.2.length)=true then
     match eY kt (ρ t k) ks 0 with
     |some (some j)=>some (.x,.tuple [],lit (aa.set i (.map ks (lit (vs.set j (ρ t v))) bs clock)))
     |some none=>some (.x,.tuple [],lit (aa.set i (.map (lit (ks++[ρ t k])) (lit (vs++[ρ t v])) (lit (bs++[clock])) (clock+1))))
     |none=>none
    else none
   |_=>none
  |_=>none
noncomputable def bF(aa:List aP)(t:List IV)(x:bD)(i:Nat):jI :=
 match ρ t x with
  |.tuple vs=>(vs[i]?).map fun v=>(.p,v,aa)
  |_=>none
noncomputable def jG(C:Call)(d:Nat)(ah:Nat->List aP)(n0:Nat)(aJ:List aP)(aa:List aP)(t:List IV)(f:bD)(args:List bD)(slot:Nat):jI :=
 match ρ t f with
  |.fn g first cap=>C d ah aJ aa (n0+slot) g (first++args.map (ρ t)++cap)
  |_=>none
noncomputable def iC(d:Nat)(ah:Nat->List aP)(n0:Nat)(aJ:List aP)(aa:List aP)(t:List IV)(zero:List IV)(sz:Nat)(eM:Bool)(s:bD)(x:bD)(slot:Nat):jI :=
 match (if eM then(lg (ρ t x)).bind fun n=>if n<=bound then some (rep zero n,n)else none else bW (look d ah aJ) sz (ρ t x))with
  |some (new,n)=>aY d n0 (look d ah aJ) aa sz (ρ t s) new n slot
  |none=>none
noncomputable def e_len(d:Nat)(ah:Nat->List aP)(aJ:List aP)(aa:List aP)(t:List IV)(k:Nat)(x:bD):jI :=
 match ρ t x with
  |.nilsl=>if k=1 then some (.p,.int .i64 0,aa)else none
  |.slM _ _ _ n _ _ _=>if k=1 then some (.p,.int .i64 n,aa)else none
  |.slC _ n _ _=>if k=1 then some (.p,.int .i64 n,aa)else none
  |.str s=>if k=0 then some (.p,.int .i64 s.size,aa)else none
  |.dY=>if k=2 then some (.p,.int .i64 0,aa)else none
  |.cR ks _=>if k=2 then some (.p,.int .i64 ks.length,aa)else none
  |.mapM l i=>if k=2 then match look d ah aJ l i with
   |some (.map ks _ _ _)=>some (.r,.int .i64 ks.length,aa)
   |_=>none
   else none
  |_=>none
noncomputable def oy(aa:List aP)(t:List IV)(isMax:Bool)(x:bD)(y:bD):jI :=
 match ρ t x,ρ t y with
  |.int k a,.int _ b=>some (.p,.int k (if isMax then(if b>a then b else a)else(if b<a then b else a)),aa)
  |_,_=>none
noncomputable def nP(aa:List aP)(t:List IV)(x:bD):jI :=
 match ρ t x with
  |.nilsl=>some (.p,.int .i64 0,aa)
  |.slM _ _ _ _ c _ true=>some (.p,.int .i64 c,aa)
  |_=>none
noncomputable def lS(d:Nat)(aa:List aP)(l i off:Nat)(xs:List IV)(v:IV):jI :=
 match aa[i]? with
 |some (.cells c)=>if l=d/\off+xs.length<=c.length/\xs.all IV.scalar=true then some (.x,v,lit (aa.set i (.cells (lit (dS c off xs)))))else none
 |_=>none
noncomputable def vr(d:Nat)(aa:List aP)(t:List IV)(zero:List IV)(sz:Nat)(x:bD):jI :=
 match ρ t x with
  |.nilsl=>some (.x,.tuple [],aa)
  |.slM l i off len _ sz0 _=>if len=0 then some (.x,.tuple [],aa)else if sz0=sz then lS d aa l i off (rep zero len) (.tuple [])else none
  |_=>none
noncomputable def vq(d:Nat)(ah:Nat->List aP)(aJ:List aP)(aa:List aP)(t:List IV)(sz:Nat)(x:bD)(y:bD):jI :=
 match ρ t x,bW (look d ah aJ) sz (ρ t y)with
  |.slM l i off len _ sz0 _,some (xs,n)=>if sz0=sz/\n=len then if n=0 then some (.x,.int .i64 0,aa)else lS d aa l i off xs (.int .i64 n)else none
  |_,_=>none
noncomputable def sK(d:Nat)(n0:Nat)(aa:List aP)(t:List IV)(zero:List IV)(sz:Nat)(n m:bD)(slot:Nat):jI :=
 match lg (ρ t n),lg (ρ t m)with
  |some a,some b=>if a=b/\a<=bound then dD aa (n0+slot) (.cells (lit (rep zero a))) (.slM d (n0+slot) 0 a a sz false)else none
  |_,_=>none
noncomputable def bY(C:Call)(d:Nat)(ah:Nat->List aP)(n0:Nat)(aJ aa:List aP)(t:List IV):j5->jI
 |.mov x=>some (.p,ρ t x,aa)
 |.nilchk x=>ef aa t x
 |.pick c a b=>gZ aa t c a b
 |.newv cs slot=>Gh d n0 aa cs slot
 |.box x slot=>kr d n0 aa t x slot
 |.build zero parts=>(dX t zero parts).map fun c=>(.p,.agg c,aa)
 |.bslice zero sz len parts=>e8 aa t zero sz len parts
 |.mslice zero sz len parts slot=>fZ d n0 aa t zero sz len parts slot
 |.load agg n x=>ig d ah aJ aa t agg n x
 |.store n x v=>fG d aa t n x v
 |.bin op x y=>(lX op (ρ t x) (ρ t y)).map fun v=>(.p,v,aa)
 |.eqagg neg ks x y=>fI aa t neg ks x y
 |.eqb neg x y=>jy aa t neg x y
 |.eqp neg x y=>lE aa t neg x y
 |.eqs neg x y=>lD aa t neg x y
 |.un op x=>(Bs op (ρ t x)).map fun v=>(.p,v,aa)
 |.conv k x=>ij aa t k x
 |.mkfn f first cap=>some (.p,.fn f (first.map (ρ t)) (cap.map (ρ t)),aa)
 |.mkmap slot=>Am d n0 aa slot
 |.slice sz x lo hi mx=>(dA sz t (ρ t x) lo hi mx).map fun v=>(.p,v,aa)
 |.faddr off x=>fH aa t off x
 |.iaddr sz x ix=>mM aa t sz x ix
 |.index agg sz len x ix=>cE aa t agg sz len x ix
 |.indexS x ix=>kZ aa t x ix
 |.lookup zero kt ok x ix=>e7 d ah aJ aa t zero kt ok x ix
 |.mapupd kt m k v=>fL d aa t kt m k v
 |.extract x i=>bF aa t x i
 |.call f args slot=>jG C d ah n0 aJ aa t f args slot
 |.append zero sz eM s x slot=>iC d ah n0 aJ aa t zero sz eM s x slot
 |.len k x=>e_len d ah aJ aa t k x
 |.mx isMax x y=>oy aa t isMax x y
 |.cap x=>nP aa t x
 |.clr zero sz x=>vr d aa t zero sz x
 |.cpy sz x y=>vq d ah aJ aa t sz x y
 |.mks zero sz n m slot=>sK d n0 aa t zero sz n m slot
 |.fail=>none
noncomputable def bI(vis:List Nat)(n0:Nat)(aa:List aP):List aP:=lit (aa.mapIdx fun i o=>if i<n0||vis.contains (i-n0)then o else .gone)
noncomputable def cK(t:List IV):Option (Nat×Bool)->Bool
 |none=>true
 |some (j,b)=>match t[j]? with
  |some (.bool c)=>c==b
  |_=>false
noncomputable def gW(C:Call)(d:Nat)(ah:Nat->List aP)(drawn:Bool)(n0:Nat)(o:cg)(st:St):Option (dI×St) :=
 if cK st.t o.guard then
  match bY C d ah n0 (if drawn then bI o.vis n0 st.aa else st.aa) st.aa st.t o.op with
  |some (e,v,aa)=>some (e,⟨put st.t o.dst v,aa⟩)
  |none=>none
 else some (.p,⟨put st.t o.dst (.tuple []),st.aa⟩)
noncomputable def kQ(C:Call)(d:Nat)(ah:Nat->List aP)(drawn:Bool)(n0:Nat):List cg->St->Option (List dI×St)
 |[],st=>some ([],st)
 |o::rest,st=>match gW C d ah drawn n0 o st with
  |some (e,st1)=>match kQ C d ah drawn n0 rest st1 with
   |some (es,st2)=>some (e::es,st2)
   |none=>none
  |none=>none
noncomputable def comm:dI->dI->Bool
 |.p,_=>true
 |_,.p=>true
 |.r,.r=>true
 |.r,.rl ..=>true
 |.r,.a=>true
 |.rl ..,.r=>true
 |.rl ..,.rl ..=>true
 |.rl ..,.a=>true
 |.a,.r=>true
 |.a,.rl ..=>true
 |.a,.a=>true
 | .rl l i o n,.w l' i' o' n'=>!(l==l'&&i==i')||o+n<=o'||o'+n'<=o
 | .w l i o n,.rl l' i' o' n'=>!(l==l'&&i==i')||o+n<=o'||o'+n'<=o
 |.rl _ i _ _,.k i' _=>!(i==i')
 |.k i' _,.rl _ i _ _=>!(i==i')
 |_,_=>false
noncomputable def iter(f:St->Option (Out×St)):Nat->St->Option (Out×St)
 |0,_=>none
 |n+1,st=>match f st with
  |some (.normal,st1)=>iter f n st1
  |r=>r
noncomputable def Ks(x:Option (Out×St))(g:St->Option (Out×St)):Option (Out×St) :=
 match x with
 |some (.normal,st1)=>g st1
 |r=>r
noncomputable def Qx(v:IV)(x y:Option (Out×St)):Option (Out×St) :=
 match v with
 |.bool true=>x
 |.bool false=>y
 |_=>none
noncomputable def pH(id:Nat)(x:Option (Out×St)):Option (Out×St) :=
 match x with
 |some (.exit j,st1)=>if j=id then some (.normal,st1)else some (.exit j,st1)
 |r=>r
noncomputable def mH(C:Call)(d:Nat)(ah:Nat->List aP)(drawn:Bool)(slots:Nat)(ops:List cg)(free:List (Nat×Nat))(st:St):Option (Out×St) :=
 match kQ C d ah drawn st.aa.length ops ⟨st.t,lit (st.aa++List.replicate slots .free)⟩with
 | some (es,st1)=>if !drawn||free.all (fun(j,i)=>comm (es.getD j .x) (es.getD i .x))then some (.normal,st1)else none
 |none=>none
noncomputable def exec(C:Call)(d:Nat)(ah:Nat->List aP)(n:Nat):IC->St->Option (Out×St)
 |.skip,st=>some (.normal,st)
 |.ret,st=>some (.ret,st)
 |.exit id,st=>some (.exit id,st)
 |.seq a b,st=>Ks (exec C d ah n a st) (exec C d ah n b)
 |.cond c a b,st=>Qx (ρ st.t c) (exec C d ah n a st) (exec C d ah n b st)
 |.block id a,st=>pH id (exec C d ah n a st)
 |.loop a,st=>iter (exec C d ah n a) n st
 |.region drawn slots ops free,st=>mH C d ah drawn slots ops free st
noncomputable def freeze:Nat->Nat->List aP->IV->Option IV
 |0,_,_,_=>none
 |n+1,lv,aa,v=>match v with
  |.ptrM l i off=>if l=lv then match aa[i]? with
    |some (.cells c)=>(c.mapM (freeze n lv aa)).map (.ptrC · off)
    |_=>none
   else some v
  |.slM l i off len cap sz tight=>if l=lv then match aa[i]? with
    |some (.cells c)=>((seg c off (len*sz)).bind fun s=>s.mapM (freeze n lv aa)).map (.slC · len sz (tight&&cap==len))
    |_=>none
   else some v
  |.mapM l i=>if l=lv then match aa[i]? with
    |some (.map ks vs _ _)=>match ks.mapM (freeze n lv aa),vs.mapM (freeze n lv aa)with
     |some a,some b=>some (.cR a b)
     |_,_=>none
    |_=>none
   else some v
  |.ptrC cs off=>(cs.mapM (freeze n lv aa)).map (.ptrC · off)
  |.slC cs len sz tight=>(cs.mapM (freeze n lv aa)).map (.slC · len sz tight)
  |.cR ks vs=>match ks.mapM (freeze n lv aa),vs.mapM (freeze n lv aa)with
   |some a,some b=>some (.cR a b)
   |_,_=>none
  |.agg cs=>(cs.mapM (freeze n lv aa)).map .agg
  |.tuple cs=>(cs.mapM (freeze n lv aa)).map .tuple
  |.fn f a b=>match a.mapM (freeze n lv aa),b.mapM (freeze n lv aa)with
   |some a,some b=>some (.fn f a b)
   |_,_=>none
  |_=>some v
noncomputable def pR(d:Nat)(ah:Nat->List aP)(st:St):mY->Option IV
 |.tmp t=>some (st.t.getD t (.tuple []))
 |.cell agg n t=>match st.t.getD t (.tuple [])with
  |.ptrM l i off=>match look d ah st.aa l i with
   |some (.cells c)=>(bB c off n).bind (ql agg)
   |_=>none
  |_=>none
noncomputable def bh(d:Nat)(ah:Nat->List aP)(st:St)(rs:List mY):Option IV :=
 match rs.mapM (pR d ah st)with
 |some [v]=>some v
 |some vs=>some (.tuple vs)
 |none=>none
noncomputable def handed(n d:Nat)(aa iW:List aP)(id:Nat)(i off len cap sz:Nat)(tight:Bool)(rest:Option (List IV)):jI :=
 match aa[i]? with
 |some (.cells c)=>match seg c off (cap*sz)with
  |some s=>match s.mapM (freeze n (d+1) (aa.set i .gone))with
   |some c'=>match rest with
    |none=>dD iW id (.cells c') (.slM d id 0 len cap sz tight)
    |some r=>match r.mapM (freeze n (d+1) (aa.set i .gone))with
     |some r'=>dD iW id (.cells c') (.tuple (.slM d id 0 len cap sz tight::r'))
     |none=>none
   |none=>none
  |none=>none
 |_=>none
noncomputable def leave(n d:Nat)(aa iW:List aP)(id mode:Nat)(v:IV):jI :=
 match (if mode=1 then (match v with
  |.slM l i off len cap sz tight=>if l=d+1 then some (i,off,len,cap,sz,tight,none)else none
  |.tuple (.slM l i off len cap sz tight::r)=>if l=d+1 then some (i,off,len,cap,sz,tight,some r)else none
  | _=>none) else none:Option (Nat × Nat × Nat × Nat × Nat × Bool × Option (List IV))) with
 |some (i,off,len,cap,sz,tight,r)=>handed n d aa iW id i off len cap sz tight r
 |none=>(freeze n (d+1) aa v).map fun v'=>(.r,v',iW)
noncomputable def swapT:dI×IV×List aP->dI×IV×List aP
 |(e,.tuple [a,b],o)=>(e,.tuple [b,a],o)
 |r=>r
noncomputable def kW(n d:Nat)(aa iW:List aP)(id mode:Nat)(v:IV):jI :=
 if mode=7 then (match v with
  |.tuple [a,b]=>(leave n d aa iW id 1 (.tuple [b,a])).map swapT
  | v=>leave n d aa iW id 0 v) else leave n d aa iW id mode v
def yG{aa iW:List aP}{id mode:Nat}(h:mode≠7):kW n d aa iW id mode v=leave n d aa iW id mode v:=b9 h
noncomputable def ended(x:Option (Out×St))(k:St->Option H):Option H :=
 match x with
 |some (.normal,st)=>k st
 |some (.ret,st)=>k st
 |_=>none
noncomputable def bl:Nat->Nat->List aP->IV->Option IV
 |0,_,_,_=>none
 |n+1,lv,aa,v=>match v with
  |.slM l i off len _ sz _=>if l=lv then match aa[i]? with
    |some (.cells c)=>((seg c off (len*sz)).bind fun s=>s.mapM (bl n lv aa)).map (.slC · len sz false)
    |_=>none
   else none
  |.slC cs len sz tight=>(cs.mapM (bl n lv aa)).map (.slC · len sz tight)
  |.agg cs=>(cs.mapM (bl n lv aa)).map .agg
  |.bool b=>some (.bool b)
  |.int k x=>some (.int k x)
  |.str x=>some (.str x)
  |.nilsl=>some .nilsl
  |_=>none
noncomputable def n5(aa:List aP)(v:IV):jI:=match v with
 |.int k x=>some (.r,.int k x,aa)
 |.bool b=>some (.r,.bool b,aa)
 |_=>none
def ack(lt:Nat->Nat->Bool):Nat->Nat->Array Nat->Array Nat
 |0,_,a=>a
 |k+1,i,a=>ack lt k (i+1) (Go.Sort.insInner lt 0 i a)
noncomputable def rq(lt:Nat->Nat->Bool)(n:Nat):List Nat :=
 if n<=12 then(ack lt (n-1) 1 ⟨List.range n⟩).toList else(Go.Sort.pdq lt (Array.range n) 0 n (Lib.bitLen n) true true).toList
noncomputable def nF(n:Nat)(tb:List (List Int))(i j:Nat):Bool:=Int.blt' ((tb.getD (i%n) []).getD (j%n) 0)
 where Int.blt':Int->Bool
  |.ofNat _=>false
  |.negSucc _=>true
def Bu(n:Nat)(lt:Nat->Nat->Bool):Bool:=(List.range n).all fun x=>!lt x x&&(List.range n).all fun y=>(List.range n).all fun z=>(!(lt x y&&lt y z)||lt x z)&&(lt x y||lt y z||!lt x z)
noncomputable def rowAt(r:List H)(sz j:Nat):List H:=(r.drop (j*sz)).take sz
noncomputable def ko(kind:Nat)(row:List IV):IV:=if kind=5 then .agg row else row.headD (.tuple [])
noncomputable def AB(C:Call)(d:Nat)(ah:Nat->List aP)(aJ aa:List aP)(id:Nat)(g:FuncId)(cap:List IV)(x y:IV):Option Int :=
 match C d ah aJ aa id g (x::y::cap)with
 |some (.r,.int .i64 r,_)=>some r
 |_=>none
noncomputable def nA(d:Nat)(aa:List aP)(sz:Nat):IV->Option (Nat×Nat×List IV×List IV×Nat)
 |.slM l i off len _ sz' _=>if l=d/\sz'=sz/\len≠0/\len<=bound then
   match aa[i]? with
   |some (.cells c)=>(seg c off (len*sz)).bind fun s=>if s.all IV.scalar=true then some (i,off,c,s,len)else none
   |_=>none
  else none
 |_=>none
noncomputable def qM(aa:List aP)(i off:Nat)(c r:List IV):dI×IV×List aP:=(.x,.tuple [],lit (aa.set i (.cells (lit (dS c off r)))))
def TL:IV->Option Int
 |.int .i64 z=>some z
 |_=>none
def FU(x:Int):List Int->List Int
 |[]=>[x]
 |y::l=>if x<=y then x::y::l else y::FU x l
def jP:List Int->List Int
 |[]=>[]
 |x::l=>FU x (jP l)
noncomputable def pP(C:Call)(d:Nat)(ah:Nat->List aP)(aJ aa:List aP)(id kind sz:Nat):List IV->jI
 |[.nilsl]=>if kind=6 then some (.x,.tuple [],aa)else none
 |[.nilsl,_]=>if kind=6 then none else some (.x,.tuple [],aa)
 |[s]=>if kind=6 then(nA d aa sz s).bind fun(i,off,c,r,_)=>(r.mapM TL).map fun zs=>qM aa i off c ((jP zs).map (.int .i64))else none
 |[s,.fn g [] cap]=>if kind=6 then none else(nA d aa sz s).bind fun(i,off,c,r,n) =>
   (((List.range n).map fun j=>ko kind (rowAt r sz j)).mapM fun x=>((List.range n).map fun j=>ko kind (rowAt r sz j)).mapM fun y=>AB C d ah (aJ.set i .gone) (aa.set i .gone) id g cap x y).bind fun tb =>
    if Bu n (nF n tb)=true then some (qM aa i off c ((rq (nF n tb) n).flatMap fun j=>rowAt r sz j))else none
 |_=>none
noncomputable def aL(F:FuncId->Option gP)(S:FuncId->List IV->Option IV):Nat->Call
 |0=>fun _ _ _ _ _ _ _=>none
 |n+1=>fun d ah aJ aa id f args =>
  match S f args with
  |some v=>some (.r,v,aa)
  |none=>match F f with
   |none=>none
   |some fn =>
    if fn.mode=2 then
     ended (exec (aL F S n) d ah n fn.body ⟨lit (args++List.replicate (fn.ntmps-args.length) (.tuple [])),aa⟩) fun st=>(bh d ah st fn.res).map fun v=>(.x,v,st.aa)
    else if fn.mode=3 then
     (args.mapM (bl 12 d aJ)).bind fun az=>ended (exec (aL F S n) 0 (fun _=>[]) n fn.body ⟨lit (az++List.replicate (fn.ntmps-az.length) (.tuple [])),[]⟩) fun st=>(bh 0 (fun _=>[]) st fn.res).bind fun v=>n5 aa v
    else if 4<=fn.mode%7 then pP (aL F S n) d ah aJ aa id fn.mode fn.ntmps args
    else
     ended (exec (aL F S n) (d+1) (fun l=>if l=d then aJ else ah l) n fn.body ⟨lit (args++List.replicate (fn.ntmps-args.length) (.tuple [])),[]⟩) fun st =>
      (bh (d+1) (fun l=>if l=d then aJ else ah l) st fn.res).bind fun v=>kW n d st.aa aa id fn.mode v
def aj{a b:Prop}(x:a)(y:b):a/\b:=⟨x,y⟩
abbrev bX:=FuncId->List IV->Option IV
abbrev bq:=Nat->List aP
abbrev aS:=List aP
abbrev eU:=Out->St->Prop
def Ng:Value->Option IV
 |.bool b=>some (.bool b)
 |.int k n=>some (.int k n)
 |.string s=>some (.str s)
 |.pointer none=>some .bw
 |.slice none 0 0=>some .nilsl
 |.map none=>some .dY
 |.nilFunc=>some .iX
 |_=>none
def allM{H I:Type}(f:H->Option I):List H->Option (List I)
 |[]=>some []
 |x::xs=>match f x,allM f xs with
  |some y,some ys=>some (y::ys)
  |_,_=>none
def toI:Value->Option IV
 |.agg cs=>(allM Ng cs.toList).map .agg
 |v=>Ng v
def bG:Operand->Option bD
 |.tmp t=>some (.tmp t)
 |.const v=>(toI v).map .const
 |.func f=>some (.const (.fn f [] []))
 |.global _=>none
def mU:Option Operand->Option (Option bD)
 |none=>some none
 |some x=>(bG x).map some
def cS(P:Program)(t:TypeId):Option Nat:=(P.info? t).map (·.size)
def gO:TypeDesc->Bool
 |.struct _=>true
 |.array _ _=>true
 |_=>false
def iK(P:Program)(t:TypeId):Option IV:=match P.info? t with
 |some i=>match i.zero with
  |some v=>toI v
  |none=>none
 |none=>none
def AD(f:TypeId->Option (List Nat)):List Field->Nat->Option (List Nat)
 |[],_=>some []
 | fd :: fs, off => if fd.name ≠ "_" ∧ fd.offset = off then
   match f fd.type with
   |some a=>match AD f fs (off+a.length)with
    |some b=>some (a++b)
    |none=>none
   |none=>none
  else none
def om(a:List Nat):Nat->List Nat
 |0=>[]
 |n+1=>a++om a n
def fC(P:Program):Nat->TypeId->Option (List Nat)
 |0,_=>none
 |D+1,t=>match P.underlying t with
  |some .bool=>if cS P t=some 1 then some [0]else none
  |some (.int _)=>if cS P t=some 1 then some [1]else none
  |some .string=>if cS P t=some 1 then some [2]else none
  |some (.struct fs)=>if P.stoodInHeld t then none else
    match AD (fC P D) fs.toList 0 with
    |some l=>if cS P t=some l.length then some l else none
    |none=>none
  |some (.array len e)=>match fC P D e with
    |some l=>if cS P t=some (len*l.length)then some (om l len)else none
    |none=>none
  |_=>none
def loadT(P:Program)(t:TypeId):Option (Bool×Nat):=match P.underlying t,cS P t with
 |some u,some n=>some (if gO u then(true,n)else(false,1))
 |_,_=>none
def k7(g:Nat->Option (Nat×Nat)):List (Nat×Operand)->Option (List (Nat×Nat×bD))
 |[]=>some []
 |(i,x)::rest=>match g i,bG x,k7 g rest with
  |some (off,n),some y,some ys=>some ((off,n,y)::ys)
  |_,_,_=>none
def qp(P:Program)(t:TypeId):Bool:=match P.info? t with
 |some i=>i.bytes<=1024
 |none=>false
def QM(P:Program)(op:BinOp)(t:TypeId)(x y:bD):Option j5 :=
 match P.underlying t with
 |some (.int _)=>some (.bin op x y)
 |some .string=>match op with
  |.add=>none
  |_=>some (.bin op x y)
 |some u=>match op with
  |.eql=>cEq false u
  |.neq=>cEq true u
  |_=>none
 |none=>none
 where
 cEq (neg:Bool) (u:TypeDesc):Option j5:=match u with
  |.bool=>some (.eqb neg x y)
  |.pointer _=>some (.eqp neg x y)
  |.slice _=>some (.eqs neg x y)
  |.struct _=>if P.eqGuardType P.depth t then none else(fC P 40 t).map fun ks=>.eqagg neg ks x y
  |.array _ _=>if P.eqGuardType P.depth t then none else(fC P 40 t).map fun ks=>.eqagg neg ks x y
  |_=>none
def Jx(P:Program)(c:Go.Call)(slot:Nat):Option j5 :=
 match c.callee,allM bG c.args.toList with
 |.value f,some xs=>(bG f).map fun y=>.call y xs slot
 |.builtin .append,some [s,x]=>match c.argTypes[0]?,c.argTypes[1]? with
  |some st,some xt=>match P.underlying st,P.underlying xt with
   |some (.slice e),some xu=>match cS P e,iK P e with
    |some n,some z=>if qp P e&&z.cells.length==n&&0<n then
      match xu with
      |.int _=>some (.append z.cells n true s x slot)
      |.slice e'=>if e'==e then some (.append z.cells n false s x slot)else none
      |_=>none
     else none
    |_,_=>none
   |_,_=>none
  |_,_=>none
 |.builtin .len,some [x]=>match c.argTypes[0]? with
  |some t=>match P.underlying t with
   |some .string=>some (.len 0 x)
   |some (.slice _)=>some (.len 1 x)
   |some (.map _ _)=>some (.len 2 x)
   |_=>none
  |none=>none
 |.builtin .cap,some [x]=>match c.argTypes[0]? with
  |some t=>match P.underlying t with
   |some (.slice _)=>some (.cap x)
   |_=>none
  |none=>none
 |.builtin .clear,some [x]=>match c.argTypes[0]? with
  |some t=>match P.underlying t with
   |some (.slice e)=>match cS P e,iK P e with
    |some n,some z=>if z.cells.length==n&&0<n then some (.clr z.cells n x)else none
    |_,_=>none
   |_=>none
  |none=>none
 |.builtin .copy,some [x,y]=>match c.argTypes[0]? with
  |some t=>match P.underlying t with
   |some (.slice e)=>match cS P e with
    |some n=>if 0<n then some (.cpy n x y)else none
    |none=>none
   |_=>none
  |none=>none
 |.builtin .max,some [x,y]=>some (.mx true x y)
 |.builtin .min,some [x,y]=>some (.mx false x y)
 |_,_=>none
def On:List IV->Bool
 |[.int _ _,.nilsl,.nilsl,.nilsl]=>true
 |_=>false
def QK(P:Program)(o:Op)(slot:Nat):Option j5 :=
 match o with
 |.move x=>(bG x).map .mov
 |.assign x=>(bG x).map .mov
 |.nilCheck x=>(bG x).map .nilchk
 |.pick c a b=>match bG c,bG a,bG b with
  |some c,some a,some b=>some (.pick c a b)
  |_,_,_=>none
 |.alloc e=>(iK P e).map fun z=>.newv z.cells slot
 |.box _ x=>(bG x).map fun y=>.box y slot
 |.build t parts=>match P.underlying t,iK P t with
  |some (.struct fs),some z=>if fs.toList.all (fun f=>(cS P f.type).isSome)then
    (k7 (fun i=>match fs[i]? with|some f=>(cS P f.type).map (f.offset,·)|none=>none) parts.toList).map (.build z.cells ·)
   else none
  |some (.array _ e),some z=>match cS P e with
   |some n=>(k7 (fun i=>some (i*n,n)) parts.toList).map (.build z.cells ·)
   |none=>none
  |_,_=>none
 |.buildSlice t len parts=>match P.underlying t with
  |some (.slice e)=>match cS P e,iK P e with
   |some n,some z=>if len*n<=2 ^ 24/\z.cells.length=n/\0<n then(k7 (fun i=>some (i*n,n)) parts.toList).map (fun ps=>if On z.cells then .mslice z.cells n len ps slot else .bslice z.cells n len ps)else none
   |_,_=>none
  |_=>none
 |.load t x=>match loadT P t,bG x with
  |some (agg,n),some y=>some (.load agg n y)
  |_,_=>none
 |.store t x v=>match cS P t,bG x,bG v with
  |some n,some y,some z=>if n=0 then none else some (.store n y z)
  |_,_,_=>none
 |.binOp op t x y _=>match bG x,bG y with
  |some x,some y=>QM P op t x y
  |_,_=>none
 |.unOp op _ x=>(bG x).map (.un op)
 |.convert s d x=>match P.underlying s,P.underlying d,bG x with
  |some (.int _),some (.int k),some y=>some (.conv k y)
  |_,_,_=>none
 |.makeFunc (.func f) first cap=>match allM bG first.toList,allM bG cap.toList with
  |some a,some b=>some (.mkfn f a b)
  |_,_=>none
 |.makeMap _ none=>some (.mkmap slot)
 |.makeSlice t n m=>match P.underlying t,bG n,bG m with
  |some (.slice e),some x,some y=>match cS P e,iK P e with
   |some k,some z=>if qp P e&&z.cells.length==k&&0<k then some (.mks z.cells k x y slot)else none
   |_,_=>none
  |_,_,_=>none
 |.slice t x lo hi mx=>match P.underlying t,bG x,mU lo,mU hi,mU mx with
  |some (.slice e),some y,some l,some h,some m=>if mx.isSome&&hi.isNone then none else(cS P e).map fun n=>.slice n y l h m
  |_,_,_,_,_=>none
 |.fieldAddr s x f=>match P.underlying s,bG x with
  |some (.struct fs),some y=>match fs[f]? with
   |some fd=>match cS P fd.type with
    |some n=>if n=0 then none else some (.faddr fd.offset y)
    |none=>none
   |none=>none
  |_,_=>none
 |.indexAddr t x ix=>match P.underlying t,bG x,bG ix with
  |some (.slice e),some y,some j=>(cS P e).map fun n=>.iaddr n y j
  |_,_,_=>none
 |.index t x ix=>match P.underlying t,bG x,bG ix with
  |some (.array len e),some y,some j=>match loadT P e,cS P e with
   |some (agg,n),some m=>if n=m then some (.index agg n len y j)else none
   |_,_=>none
  |some .string,some y,some j=>some (.indexS y j)
  |_,_,_=>none
 |.lookup t x ix ok=>match P.underlying t,bG x,bG ix with
  |some (.map k e),some y,some j=>match fC P 40 k,P.underlying k with
   |some kt,some u=>(iK P e).map fun z=>.lookup z (gO u,kt) ok y j
   |_,_=>none
  |_,_,_=>none
 |.mapUpdate t m k v=>match P.underlying t,bG m,bG k,bG v with
  |some (.map kt _),some a,some b,some c=>match fC P 40 kt,P.underlying kt with
   |some l,some u=>some (.mapupd (gO u,l) a b c)
   |_,_=>none
  |_,_,_,_=>none
 |.extract x i=>(bG x).map fun y=>.extract y i
 |.call c=>Jx P c slot
 |.makeInterface _ _=>some .fail
 |.panic _=>some .fail
 |_=>none
def j5.makes:j5->Bool
 |.newv ..=>true
 |.box ..=>true
 |.mslice ..=>true
 |.mkmap ..=>true
 |.call ..=>true
 |.append ..=>true
 |.mks ..=>true
 |_=>false
def j5.quiet:j5->Bool
 |.mov ..=>true
 |.nilchk ..=>true
 |.pick ..=>true
 |.build ..=>true
 |.bslice ..=>true
 |.bin ..=>true
 |.eqagg ..=>true
 |.eqb ..=>true
 |.eqp ..=>true
 |.eqs ..=>true
 |.un ..=>true
 |.conv ..=>true
 |.mkfn ..=>true
 |.slice ..=>true
 |.faddr ..=>true
 |.iaddr ..=>true
 |.index ..=>true
 |.indexS ..=>true
 |.extract ..=>true
 |.mx ..=>true
 |.cap ..=>true
 |.fail=>true
 |_=>false
def bD.tmps:bD->List Nat
 |.tmp t=>[t]
 |.const _=>[]
def mJ:Option bD->List Nat
 |some x=>x.tmps
 |none=>[]
def j5.tmps:j5->List Nat
 |.mov x=>x.tmps
 |.nilchk x=>x.tmps
 |.pick c a b=>c.tmps++a.tmps++b.tmps
 |.newv _ _=>[]
 |.box x _=>x.tmps
 |.build _ ps=>ps.flatMap (·.2.2.tmps)
 |.bslice _ _ _ ps=>ps.flatMap (·.2.2.tmps)
 |.mslice _ _ _ ps _=>ps.flatMap (·.2.2.tmps)
 |.load _ _ x=>x.tmps
 |.store _ x v=>x.tmps++v.tmps
 |.bin _ x y=>x.tmps++y.tmps
 |.eqagg _ _ x y=>x.tmps++y.tmps
 |.eqb _ x y=>x.tmps++y.tmps
 |.eqp _ x y=>x.tmps++y.tmps
 |.eqs _ x y=>x.tmps++y.tmps
 |.un _ x=>x.tmps
 |.conv _ x=>x.tmps
 |.mkfn _ a b=>a.flatMap bD.tmps++b.flatMap bD.tmps
 |.mkmap _=>[]
 |.slice _ x lo hi m=>x.tmps++mJ lo++mJ hi++mJ m
 |.faddr _ x=>x.tmps
 |.iaddr _ x ix=>x.tmps++ix.tmps
 |.index _ _ _ x ix=>x.tmps++ix.tmps
 |.indexS x ix=>x.tmps++ix.tmps
 |.lookup _ _ _ x ix=>x.tmps++ix.tmps
 |.mapupd _ m k v=>m.tmps++k.tmps++v.tmps
 |.extract x _=>x.tmps
 |.call f xs _=>f.tmps++xs.flatMap bD.tmps
 |.append _ _ _ s x _=>s.tmps++x.tmps
 |.len _ x=>x.tmps
 |.mx _ x y=>x.tmps++y.tmps
 |.cap x=>x.tmps
 |.clr _ _ x=>x.tmps
 |.cpy _ x y=>x.tmps++y.tmps
 |.mks _ _ x y _=>x.tmps++y.tmps
 |.fail=>[]
def j5.oU:j5->Option Nat
 |.newv _ s=>some s
 |.box _ s=>some s
 |.mslice _ _ _ _ s=>some s
 |.mkmap s=>some s
 |.call _ _ s=>some s
 |.append _ _ _ _ _ s=>some s
 |.mks _ _ _ _ s=>some s
 |_=>none
def cg.reads(o:cg):List Nat:=o.op.tmps++(match o.guard with|some (j,_)=>[j]|none=>[])
def AX(a b:cg):Bool :=
 (match a.dst with|some x=>!b.reads.contains x&&b.dst != some x|none=>true) &&
 (match b.dst with|some x=>!a.reads.contains x|none=>true)
def pG(ops:Array Oper):Option (Nat×Bool)->Option (Option (Nat×Bool))
 |none=>some none
 |some (j,b)=>match (ops[j]?).bind (·.dst)with
  |some t=>some (some (t,b))
  |none=>none
def L4(P:Program)(ops:Array Oper):List Oper->Nat->Option (List cg×Nat)
 |[],s=>some ([],s)
 |o::rest,s=>match QK P o.op s,pG ops o.guard with
  |some op,some g=>match L4 P ops rest (if op.makes then s+1 else s)with
   |some (l,s')=>some (⟨o.dst,op,g,[]⟩::l,s')
   |none=>none
  |_,_=>none
def pairs(n:Nat):List (Nat×Nat):=(List.range n).flatMap fun i=>(List.range i).map fun j=>(j,i)
def XC(l:List cg)(j:Nat):List Nat:=match l[j]? with
 |some o=>o.op.oU.toList
 |none=>[]
def qt(x y:cg):Bool :=
 (match x.op.oU with|some s=>!y.vis.contains s&&y.op.oU != some s|none=>true) &&
 (match y.op.oU with|some s=>!x.vis.contains s|none=>true)
def mm(b:Array Nat)(o:Oper):Nat:=o.after.foldl (fun s e=>if Region.binds .any e then s ||| 2 ^ e.on ||| b.getD e.on 0 else s) 0
def rZ(b:Array Nat)(n:Nat):List (Nat×Nat):=(pairs n).filter fun ji=>!(b.getD ji.2 0).testBit ji.1
def iV(b:Array Nat)(l:List cg):List cg:=l.mapIdx fun i o=>{ o with vis:=(List.range i).flatMap fun j=>if (b.getD i 0).testBit j then XC l j else[] }
def aci(l:List cg)(ji:Nat×Nat):Bool:=match l[ji.1]?,l[ji.2]? with
 |some x,some y=>!x.op.quiet&&!y.op.quiet
 |_,_=>true
def rR(ops:Array Oper)(b:Array Nat)(l:List cg):Bool :=
 (rZ b l.length).all (fun ji=>match l[ji.1]?,l[ji.2]? with|some x,some y=>AX x y&&qt x y|_,_=>false) &&
 ops.toList.zipIdx.all fun oi=>oi.1.after.all (fun e=>!Region.binds .any e||decide (e.on<oi.2))&&b.getD oi.2 0==mm b oi.1
def Gj(ops:Array Oper)(b:Array Nat)(l:List cg)(s:Nat):Option IC :=
 if rR ops b l then some (.region true s l ((rZ b l.length).filter (aci l)))else none
def p8(P:Program)(ops:Array Oper)(drawn:Bool):Option IC :=
 match L4 P ops ops.toList 0 with
 |none=>none
 |some (l,s)=>if drawn then Gj ops (CheckFast.beforeF ops) (iV (CheckFast.beforeF ops) l) s else some (.region false s l [])
def kC(P:Program):Code->Option IC
 |.skip=>some .skip
 |.region _ ops draw=>p8 P ops draw
 |.seq a b=>match kC P a,kC P b with
  |some x,some y=>some (.seq x y)
  |_,_=>none
 |.cond c a b=>match bG c,kC P a,kC P b with
  |some z,some x,some y=>some (.cond z x y)
  |_,_,_=>none
 |.block id a=>(kC P a).map (.block id)
 |.loop a=>(kC P a).map .loop
 |.exit id=>some (.exit id)
 |.ret=>some .ret
 |_=>none
def QI(P:Program):ResultVar->Option mY
 |.tmp t=>some (.tmp t)
 |.cell a t=>(loadT P t).map fun(agg,n)=>.cell agg n a
def cFn(P:Program)(fn:Func)(mode:Nat):Option gP :=
 if fn.name = "runtime.NumGoroutine" then none else
 match fn.body with
 |none=>none
 |some c=>match kC P c,allM (QI P) fn.results.toList with
  |some b,some r=>some ⟨fn.ntmps,r,b,mode⟩
  |_,_=>none
def dx(I:Pl)(W:World)(xs:List IV)(ys:List Value):Prop:=xs.length=ys.length/\∀(j:Nat)(x:IV)(y:Value),xs[j]?=some x->ys[j]?=some y->VR I W x y
def TR(I:Pl)(W:World)(t:List IV)(a:Array Value):Prop:=dx I W t a.toList
variable {xs:List IV}{ys:List Value}
def dx.ext(e:Ext I W β' W')(h:dx I W xs ys):dx β' W' xs ys:=⟨h.1,fun j x y hx hy=>(h.2 j x y hx hy).ext e⟩
variable {t:List IV}
def TR.ext(e:Ext I W β' W'){a:Array Value}(h:TR I W t a):TR β' W' t a:=dx.ext e h
theorem dx.nil:dx I W [] []:=⟨rfl,fun j x y hx=>by simp at hx⟩
theorem dx.cons{x:IV}{y:Value}(h:VR I W x y)(hs:dx I W xs ys):dx I W (x::xs) (y::ys) :=
 ⟨by simp [hs.1],fun j a b ha hb=>by
  cases j with
  |zero=>grind
  | succ j=>exact hs.2 j a b ha hb⟩
theorem dx.append{xs':List IV}{ys':List Value}(h:dx I W xs ys)(hs:dx I W xs' ys'):dx I W (xs++xs') (ys++ys') :=
 ⟨by simp [h.1,hs.1],fun j a b ha hb=>by
  by_cases hj:j<xs.length
  .rw[pN hj]at ha;rw[pN (h.1▸hj)]at hb;exact h.2 j a b ha hb
  .rw[q8 (zmt hj)]at ha;rw[q8 (h.1▸zmt hj),←h.1]at hb;exact hs.2 _ a b ha hb⟩
variable {j:Nat}
theorem dx.get(h:dx I W xs ys){x:IV}(hx:xs[j]?=some x):∃ y,ys[j]?=some y/\VR I W x y:=by have hj:=h.1▸(ew.1 hx).1;exact⟨ys[j],dw hj,h.2 j x _ hx (dw hj)⟩
theorem dx.drop(h:dx I W xs ys)(n:Nat):dx I W (xs.drop n) (ys.drop n) :=
 ⟨by simp[h.1],fun j a b ha hb=>by rw[znb]at ha hb;exact h.2 _ a b ha hb⟩
theorem dx.take(h:dx I W xs ys)(n:Nat):dx I W (xs.take n) (ys.take n) :=
 ⟨by simp [h.1],fun j a b ha hb=>by
  rw[zlj]at ha hb;split at ha
  .rename_i hj;rw[bU hj]at hb;exact h.2 _ a b ha hb
  grind⟩
theorem dx.set(h:dx I W xs ys){x:IV}{y:Value}(hv:VR I W x y)(i:Nat):dx I W (xs.set i x) (ys.set i y) :=
 ⟨by simp [h.1],fun j a b ha hb=>by
  rw[zk8]at ha hb;by_cases hij:i=j
  .grind
  .rw[b9 hij]at ha hb;exact h.2 j a b ha hb⟩
theorem za0:VR I W (.tuple []) undef:=.tuple rfl (fun j x y hx=>by simp)
theorem zec(h:dx I W xs ys):VR I W (.agg xs) (.agg ys.toArray):=.agg (by simp[h.1]) (fun j x y hx hy=>h.2 j x y hx (by grind))
variable {ws:Array Value}
theorem za1(n:xs.length=ws.size)(h:∀(j:Nat)(x:IV)(y:Value),xs[j]?=some x->ws[j]?=some y->VR I W x y):dx I W xs ws.toList :=
 ⟨Z,fun j x y hx hy=>h j x y hx (by grind)⟩
theorem zT{x:Value}(h:VR I W v x):dx I W v.cells x.cells.toList:=by
 cases h with
 |agg n h=>exact za1 n h
 |_=>exact .cons (by first|exact .bool _|exact .int _ _|exact .str _|exact .bw|grind|exact .nilsl|exact .dY|exact .iX|grind|(constructor<;>assumption)) .nil
theorem Y0{x:Value}(h:VR I W v x)(hs:v.scalar=true):x.oneCell'=true:=by cases h<;>first|rfl|(simp[IV.scalar]at hs)
theorem y6(h:dx I W xs ys)(hs:xs.all IV.scalar=true):∀ y∈ys,y.oneCell'=true:=by intro y hy;obtain⟨j,hj,rfl⟩:=RO.1 hy;exact Y0 (h.2 j _ _ (dw (h.1▸hj)) (dw hj)) (nu.1 hs _ (gQ _))
theorem Hs{v:Value}{x:IV}(h:Ng v=some x):VR I W x v:=by unfold Ng at h;split at h<;>first|(cases h;first|exact .bool _|exact .int _ _|exact .str _|exact .bw|exact .nilsl|exact .dY|exact .iX)|grind
theorem Z1{H γ:Type}{f:H->Option γ}:∀{l:List H}{r:List γ},allM f l=some r->r.length=l.length/\∀(j:Nat)(x:H),l[j]?=some x->∃ y,r[j]?=some y/\f x=some y
 |[],r,h=>by simp only[allM,iw]at h;grind
 |x::xs,r,h=>by
  simp[allM]at h;split at h
  .rename_i y ys hy hys;let⟨h1,h2⟩:=Z1 hys;grind
  grind
theorem M8{v:Value}{x:IV}(h:toI v=some x):VR I W x v:=by
 unfold toI at h;split at h
 .rename_i cs;cases hl:allM Ng cs.toList with
  |none=>grind
  |some l =>
   rw[hl]at h
   cases h
   let⟨h1,h2⟩:=Z1 hl
   refine .agg Z fun j a b ha hb=>?_
   let⟨y,hy,hf⟩:=h2 j b (by grind)
   rw[ha]at hy;cases hy
   exact Hs hf
 .exact Hs h
theorem TR.get{a:Array Value}(h:TR I W t a)(i:Nat):VR I W (t.getD i (.tuple [])) (a.getD i undef):=by
 by_cases hi:i<t.length
 .have hi':i<a.size:=by have:=h.1;grind
  have:=h.2 i t[i] a[i] (dw hi) M;simp_all
 .have hi':¬ i<a.size:=by have:=h.1;grind
  simpa[List.getD,hi,hi',List.getElem?_eq_none (zmt hi)]using za0
variable {a:Act}{x:Operand}
theorem TR.eval(h:TR I W t a.tmps){y:bD}(hx:bG x=some y):VR I W (ρ t y) (a.eval x):=by
 cases x with
 |tmp i=>simp[bG,iw]at hx;subst hx;rw[ρahf];exact h.get i
 |const v =>
  simp only[bG]at hx
  cases hv:toI v with
  |none=>grind
  |some z=>rw[hv]at hx;cases hx;exact M8 hv
 |func f=>simp[bG,iw]at hx;subst hx;exact .fn rfl rfl (fun j x y hx=>by simp) (fun j x y hx=>by simp)
 |global g=>simp[bG]at hx
theorem TR.put(h:TR I W t a.tmps){x:Value}(hv:VR I W v x)(dst:Option Nat):TR I W (put t dst v) (a.put dst x).tmps:=by
 cases dst with
 |none=>exact h
 |some i =>
  rw[ye]
  show dx I W (t.set i v) (a.tmps.setIfInBounds i x).toList
  rw[znc]
  exact dx.set h hv i
theorem zed:∀{n:Nat}{c:List IV}{off:Nat}{xs:List IV},bB c off n=some xs->xs.length=n/\∀ j,j<n->xs[j]?=c[off+j]?
 |0,c,off,xs,h=>by simp only[bB,iw]at h;grind
 |n+1,c,off,xs,h=>by
  simp[bB]at h;cases hc:c[off]? with
  |none=>grind
  |some x =>
   rw[hc]at h
   cases hr:bB c (off+1) n with
   |none=>grind
   |some ys =>
    let⟨h1,h2⟩:=zed hr
    grind
def At(I:Pl)(W:World)(c:List IV)(off:Nat)(a:Addr):Prop:=a.spot=none/\∀(j:Nat)(z:IV),c[off+j]?=some z->∃ y,W.cell? ⟨a.block,a.off+j,none⟩=some y/\VR I W z y
variable {i l off:Nat}
theorem JC{get:Nat->Nat->Option aP}(hR:RS I get W){c:List IV}{x:Value}(h:VR I W (.ptrM l i off) x)(hg:get l i=some (.cells c)):∃ a,x=.pointer (some a)/\At I W c off a:=by
 cases h with
 |@ptrM _ _ _ k s hb =>
  refine⟨_,rfl,rfl,fun j z hz=>?_⟩
  let⟨c',ty,hh,hc⟩:=hR.obj _ _ _ _ _ hb hg
  simp[World.cell?,hh,JX,nv,if_false]
  grind
theorem UO{c:List IV}{x:Value}(h:VR I W (.ptrC c off) x):∃ a,x=.pointer (some a)/\At I W c off a:=by
 cases h with
 |@ptrC _ _ k s f hk hc hv =>
  refine⟨_,rfl,rfl,fun j z hz=>?_⟩
  grind
theorem ZE{a:Addr}(h:a.spot=none)(j:Nat):a.add j=⟨a.block,a.off+j,none⟩:=by
 unfold Addr.add;split
 .rename_i hj;subst hj;cases a;grind
 rfl
variable {P:Program}{u:TypeDesc}
theorem y7{t:TypeId}(h:P.underlying t=some u)(W:World):(isAgg t).run P W=.ok (gO u) W:=by cases u<;>simp[isAgg,run_underlying h,gO]
theorem yh{t:TypeId}(h:cS P t=some n)(W:World):(sizeOf t).run P W=.ok n W:=by
 unfold cS at h;cases hi:P.info? t with
 |none=>grind
 |some i=>rw[hi]at h;cases h;simp[sizeOf,typeInfo,hi]
theorem CJ(h:ql true xs=some v):v=.agg xs:=by simpa[ql,eq_comm]using h
theorem uP(h:ql false xs=some v):xs=[v]:=by unfold ql at h;grind
theorem At.cells{c:List IV}{a:Addr}(h:At I W c off a)(hr:∀ j x,xs[j]?=some x->c[off+j]?=some x)(hn:xs.length=n) :
  ∃ ys:List Value,ys.length=n/\dx I W xs ys/\∀ j y,ys[j]?=some y->W.cell? (a.add j)=some y:=by
 induction xs generalizing off a n with
 |nil=>subst hn;exact⟨[],rfl,.nil,fun j y hy=>by grind⟩
 |cons x xs ih =>
  let⟨y,hy,hv⟩:=h.2 0 x (hr 0 x rfl)
  have h':At I W c (off+1) ⟨a.block,a.off+1,none⟩:=⟨rfl,fun j z hz=>by
   let⟨y,hy,hv⟩:=h.2 (j+1) z (by grind);grind⟩
  let⟨ys,h1,h2,h3⟩:=ih h' (fun j z hz=>by rw[show off+1+j=off+(j+1) by omega];simp_all) rfl
  refine⟨y::ys,by grind,.cons hv h2,fun j z hz=>?_⟩
  cases j with
  |zero=>simp at hz;subst hz;rw[ZE h.1];omega
  |succ j =>
   have:=h3 j z hz
   rw[ZE rfl]at this
   rw[ZE h.1,←this];grind
variable {agg:Bool}
theorem CN{t:TypeId}{c:List IV}{a:Addr}(hl:loadT P t=some (agg,n))(h:At I W c off a)(hr:(bB c off n).bind (ql agg)=some v) :
  ∃ x,(loadVar t a).run P W=.ok x W/\VR I W v x:=by
 unfold loadT at hl
 cases hu:P.underlying t with
 |none=>grind
 |some u =>
  cases hs:cS P t with
  |none=>grind
  |some n0 =>
   rw[hu,hs]at hl
   dsimp only at hl
   cases hx:bB c off n with
   |none=>grind
   |some xs =>
    rw[hx]at hr
    let⟨h1,h2⟩:=zed hx
    have hr':∀ j x,xs[j]?=some x->c[off+j]?=some x:=fun j x hj=>by grind
    let⟨ys,e1,e2,e3⟩:=h.cells hr' h1
    cases ha:gO u with
    |true =>
     rw[ha]at hl
     obtain⟨rfl,rfl⟩:=hl
     rw[CJ hr]
     have hc:=run_loadCells_list (P:=P) W a ys e3
     rw[e1]at hc
     refine⟨.agg ys.toArray,?_,zec e2⟩
     simp[loadVar,y7 hu,ha,yh hs,hc]
    |false =>
     rw[ha]at hl
     obtain⟨rfl,rfl⟩:=hl
     have hxs:=uP hr
     subst hxs
     obtain⟨y,rfl⟩:∃ y,ys=[y]:=by
      cases ys with
      |nil=>grind
      |cons y ys=>grind
     refine⟨y,?_,e2.2 0 v y rfl rfl⟩
     have:=e3 0 y rfl
     rw[ZE h.1]at this
     have ha0:(⟨a.block,a.off+0,none⟩:Addr)=a:=by cases a;have:=h.1;grind
     rw[ha0]at this
     simp[loadVar,y7 hu,ha,run_load,this]
variable {ah:bq}
theorem yi{aa:aS}(i:Nat):look d ah aa d i=aa[i]?:=by simp[look]
variable {o0:aP}
theorem zZ{aa:aS}{o:aP}(h:aa[i]?=some o0):look d ah (aa.set i o) d i=some o:=by rw[yi,zk8];grind
def zU{aa:aS}{o:aP}(h:¬ (l=d/\j=i)):look d ah (aa.set i o) l j=look d ah aa l j:=xez
variable {s:Nat}
theorem OR.ext{o:aP}(h:OR I W k s o)(e:Ext I W β' W')(hk:W'.heap[k]?=W.heap[k]?):OR β' W' k s o:=by
 cases o with
 |free=>exact h
 |gone=>exact h
 |cells c =>
  let⟨c',t,h1,h2⟩:=h
  exact⟨c',t,hk.trans h1,fun j x hx=>let⟨y,hy,hv⟩:=h2 j x hx;⟨y,hy,hv.ext e⟩⟩
 |map ks vs bs clock =>
  let⟨es,h1,h2,h3,h4,h5⟩:=h
  exact⟨es,hk.trans h1,h2,h3,h4,fun j en he=>let⟨a,b,c⟩:=h5 j en he;⟨fun x hx=>(a x hx).ext e,fun x hx=>(b x hx).ext e,c⟩⟩
def upd(I:Pl)(d id:Nat)(p:Nat×Nat):Pl:=fun l i=>if l=d/\i=id then some p else I l i
theorem zX(I:Pl)(d id:Nat)(p:Nat×Nat):upd I d id p d id=some p:=by simp[upd]
theorem y8{id:Nat}{p:Nat×Nat}(h:¬ (l=d/\i=id)):upd I d id p l i=I l i:=by simp[upd,h]
theorem RS.free{get:Nat->Nat->Option aP}(h:RS I get W)(hg:get l i=some .free):I l i=none:=by
 cases hb:I l i with
 |none=>rfl
 |some p=>exact(h.obj l i p.1 p.2 .free hb hg).elim
theorem zee{aa:aS}{id:Nat}{o:aP}(hR:RS I (look d ah aa) W)(hf:aa[id]?=some .free)
  (hk:∀ l i s' o',I l i=some (k,s')->look d ah aa l i=some o'->o'.live=true->False) (hkd:W.heap.size<=k∨∃ i s',I d i=some (k,s'))
  (hW:∀ k2,k2≠k->k2<W.heap.size->W'.heap[k2]?=W.heap[k2]?) (hs:W.heap.size<=W'.heap.size) (hk':k<W'.heap.size)
  (hrow:∀(c:Array Value)(t:TypeId)(f:Nat×Nat),W.heap[k]?=some (.cells c t f)->∃ c2,W'.heap[k]?=some (.cells c2 t f)/\c2.size=c.size) (h1:W'.os=W.os) (h2:W'.tape=W.tape) (h3:W'.output=W.output)
  (hO:Ext I W (upd I d id (k,s)) W'->OR (upd I d id (k,s)) W' k s o) :
  RS (upd I d id (k,s)) (look d ah (aa.set id o)) W'/\Fr d I W (upd I d id (k,s)) W':=by
 have hfree:I d id=none:=hR.free xfu
 have hF:Fr d I W (upd I d id (k,s)) W' :=
  {keep:=fun l i p hb=>by rw[y8 (fun h=>by grind)];omega
   fresh:=fun l i k' s' hb=>by
    by_cases h:l=d/\i=id
    .rw[h.1,h.2,zX]at hb;grind
    .rw[y8 h]at hb;grind
   block:=fun k2 hk2 hn=>by grind
   size:=hs,os:=h1,tape:=h2,output:=h3
   rows:=fun k2 c t f hc=>by
    grind }
 refine⟨?_,hF⟩
 have old:∀{l i o'},¬ (l=d/\i=id)->look d ah (aa.set id o) l i=some o'->look d ah aa l i=some o':=fun h hg=>by rwa [zU h]at hg
 constructor
 .intro l i k2 s2 o2 hb hg
  by_cases h:l=d/\i=id
  .let⟨rfl,rfl⟩:=h
   rw[zX]at hb;cases hb
   rw[zZ hf]at hg;cases hg
   exact hO hF.ext
  .rw[y8 h]at hb
   rw[zU h]at hg
   by_cases hl:o2.live=true
   .exact(hR.obj _ _ _ _ _ hb hg).ext hF.ext (hW k2 (fun e=>hk _ _ _ _ (e▸hb) hg hl) (hR.here _ _ _ _ hb))
   .cases o2 with
    |free=>exact hR.obj _ _ _ _ _ hb hg
    |gone=>trivial
    |cells _=>exact absurd rfl hl
    |map _ _ _ _=>exact absurd rfl hl
 .intro l i l' i' k2 s2 s2' o1 o2 hb hb' hg hg' hl hl'
  by_cases h:l=d/\i=id
  .by_cases h':l'=d/\i'=id
   .grind
   .rw[h.1,h.2,zX]at hb;cases hb
    rw[y8 h']at hb'
    grind
  .by_cases h':l'=d/\i'=id
   .rw[h'.1,h'.2,zX]at hb';cases hb'
    rw[y8 h]at hb
    grind
   .rw[y8 h]at hb
    rw[y8 h']at hb'
    exact hR.one _ _ _ _ _ _ _ _ _ hb hb' (old h hg) (old h' hg') hl hl'
 .intro l i k2 s2 hb
  by_cases h:l=d/\i=id
  .rw[h.1,h.2,zX]at hb;grind
  .rw[y8 h]at hb;exact W6 (hR.here _ _ _ _ hb) hs
 .intro l i o2 hg hl
  by_cases h:l=d/\i=id
  .exact⟨_,by rw[h.1,h.2];exact zX _ _ _ _⟩
  .rw[y8 h];exact hR.has _ _ _ (old h hg) hl
 .intro l i p hb
  by_cases h:l=d/\i=id
  .exact⟨o,by rw[h.1,h.2];exact zZ hf⟩
  .rw[y8 h]at hb;rw[zU h];exact hR.dom _ _ _ hb
theorem zef{aa:aS}{o:aP}(hR:RS I (look d ah aa) W)(hi:aa[i]?=some o0)(hl:o0.live=true)(hb:I d i=some (k,s))
  (hW:∀ k2,k2≠k->W'.heap[k2]?=W.heap[k2]?) (hs:W'.heap.size=W.heap.size)
  (hrow:∀(c:Array Value)(t:TypeId)(f:Nat×Nat),W.heap[k]?=some (.cells c t f)->∃ c2,W'.heap[k]?=some (.cells c2 t f)/\c2.size=c.size) (h1:W'.os=W.os) (h2:W'.tape=W.tape) (h3:W'.output=W.output)
  (hO:Ext I W I W'->OR I W' k s o) (hlo:o.live=true):RS I (look d ah (aa.set i o)) W'/\Fr d I W I W':=by
 have hF:Fr d I W I W':=⟨fun _ _ _ h=>h,fun _ _ _ _ h=>.inl h,fun k2 _ hn=>hW k2 (fun e=>hn i s (e ▸ hb)),Nat.le_of_eq hs.symm,fun k2 c t f hc=>(by
   grind),h1,h2,h3⟩
 refine⟨?_,hF⟩
 have gi:look d ah aa d i=some o0:=xfu
 constructor
 .intro l j k2 s2 o2 fE hg
  by_cases h:l=d/\j=i
  .let⟨rfl,rfl⟩:=h
   rw[hb]at fE;cases fE
   rw[zZ hi]at hg;cases hg
   exact hO hF.ext
  .rw[zU h]at hg
   by_cases iN:o2.live=true
   .refine(hR.obj _ _ _ _ _ fE hg).ext hF.ext (hW k2 (fun e=>?_))
    subst e
    exact h (hR.one _ _ _ _ _ _ _ _ _ fE hb hg gi iN hl)
   .cases o2 with
    |free=>exact hR.obj _ _ _ _ _ fE hg
    |gone=>trivial
    |cells _=>exact absurd rfl iN
    |map _ _ _ _=>exact absurd rfl iN
 .intro l j l' j' k2 s2 s2' o1 o2 kK fE hg hg' mB iN
  have fix:∀{l j o'},look d ah (aa.set i o) l j=some o'->o'.live=true->∃ o'',look d ah aa l j=some o''/\o''.live=true:=fun{l j o'} hg hl'=>by
   by_cases h:l=d/\j=i
   .grind
   .rw[zU h]at hg;grind
  let⟨a,ha,hla⟩:=fix hg mB
  let⟨b,hb',hlb⟩:=fix hg' iN
  exact hR.one _ _ _ _ _ _ _ _ _ kK fE ha hb' hla hlb
 .intro l j k2 s2 fE;rw[hs];exact hR.here _ _ _ _ fE
 .intro l j o2 hg iN
  by_cases h:l=d/\j=i
  .grind
  .rw[zU h]at hg;exact hR.has _ _ _ hg iN
 .intro l j p fE
  by_cases h:l=d/\j=i
  .exact⟨o,by rw[h.1,h.2];exact zZ hi⟩
  .rw[zU h];exact hR.dom _ _ _ fE
theorem wO{aa:aS}(hR:RS I (look d ah aa) W)(hi:aa[i]?=some o0):RS I (look d ah (aa.set i .gone)) W:=by
 have old:∀{l j o'},look d ah (aa.set i .gone) l j=some o'->o'.live=true->look d ah aa l j=some o':=fun{l j o'} hg hl=>by
  by_cases h:l=d/\j=i
  .rw[h.1,h.2,zZ hi]at hg;cases hg;simp[aP.live]at hl
  .rwa [zU h]at hg
 constructor
 .intro l j k2 s2 o2 hb hg;by_cases h:l=d/\j=i
  .rw[h.1,h.2,zZ hi]at hg;cases hg;trivial
  .rw[zU h]at hg;exact hR.obj _ _ _ _ _ hb hg
 .intro l j l' j' k2 s2 s2' o1 o2 kK fE hg hg' mB iN;exact hR.one _ _ _ _ _ _ _ _ _ kK fE (old hg mB) (old hg' iN) mB iN
 .exact hR.here
 .intro l j o2 hg hl;exact hR.has _ _ _ (old hg hl) hl
 .intro l j p hb;by_cases h:l=d/\j=i
  .exact⟨.gone,by rw[h.1,h.2];exact zZ hi⟩
  .rw[zU h];exact hR.dom _ _ _ hb
theorem RS.same{get:Nat->Nat->Option aP}(hR:RS I get W)(h:W'.heap=W.heap):RS I get W':=by exact⟨fun l i k s o hb hg=>(hR.obj l i k s o hb hg).ext ⟨fun _ _ _ h=>h,fun l i k s h=>.inl ⟨l,i,s,h⟩,fun k _ _=>by rw[h],by grind,fun k c t f hc=>⟨c,by grind,rfl⟩⟩ (by rw[h]),hR.one,fun l i k s hb=>by rw[h];exact hR.here l i k s hb,hR.has,hR.dom⟩
theorem RS.old{get:Nat->Nat->Option aP}(hR:RS I get W)(h:∀ k,k<W.heap.size->W'.heap[k]?=W.heap[k]?)(hs:W.heap.size<=W'.heap.size):RS I get W':=by exact⟨fun l i k s o hb hg=>(hR.obj l i k s o hb hg).ext ⟨fun _ _ _ h=>h,fun l i k s h=>.inl ⟨l,i,s,h⟩,fun k hk _=>h k hk,hs,fun k c t f hc=>⟨c,(h k (RQ.1 hc).1).trans hc,rfl⟩⟩ (h k (hR.here _ _ _ _ hb)),hR.one,fun l i k s hb=>W6 (hR.here l i k s hb) hs,hR.has,hR.dom⟩
theorem RS.more{aa:aS}(hR:RS I (look d ah aa) W)(n:Nat):RS I (look d ah (aa++List.replicate n .free)) W:=by
 have cas:∀{l i o},look d ah (aa++List.replicate n .free) l i=some o->look d ah aa l i=some o∨(o=.free/\look d ah aa l i=none):=fun{l i o} hg=>by unfold look at hg ⊢;grind
 constructor
 .intro l i k s o hb hg;rcases cas hg with hg|⟨rfl,hn⟩
  .exact hR.obj _ _ _ _ _ hb hg
  .let⟨o',ho'⟩:=hR.dom _ _ _ hb;grind
 .intro l i l' i' k s s' o o' hb hb' hg hg' hl hl';rcases cas hg with hg|⟨rfl,_⟩
  .rcases cas hg' with hg'|⟨rfl,_⟩
   .exact hR.one _ _ _ _ _ _ _ _ _ hb hb' hg hg' hl hl'
   .simp[aP.live]at hl'
  .simp[aP.live]at hl
 .exact hR.here
 .intro l i o hg hl;rcases cas hg with hg|⟨rfl,_⟩
  .exact hR.has _ _ _ hg hl
  .simp[aP.live]at hl
 .intro l i p hb;let⟨o,ho⟩:=hR.dom _ _ _ hb;refine⟨o,?_⟩;unfold look at ho ⊢;grind
variable {ad:Addr}{b tight:Bool}{c2 cs:List IV}{cap' sz:Nat}{f:FuncId}
section
variable {x:Value}
def Z2(h:VR I W (.bool b) x):x=.bool b:=xel
def Yz{k:IntKind}{n:Int}(h:VR I W (.int k n) x):x=.int k n:=xel
def MN{s:ByteArray}(h:VR I W (.str s) x):x=.string s:=xel
def Yl(h:VR I W .bw x):x=.pointer none:=xel
theorem uG(h:VR I W (.ptrM l i off) x):∃ k s,I l i=some (k,s)/\x=.pointer (some ⟨k,off+s,none⟩):=by cases h with|ptrM h=>grind
theorem Of(h:VR I W (.ptrC cs off) x):∃ k s,x=.pointer (some ⟨k,off+s,none⟩):=by cases h with|ptrC f hk hc hv=>grind
theorem Oe(h:VR I W (.ptrC cs off) x):∃ k s,jZ I W k/\(∀(j:Nat)(z:IV),cs[j]?=some z->∃ y,W.cell? ⟨k,s+j,none⟩=some y/\VR I W z y)/\x=.pointer (some ⟨k,off+s,none⟩):=by cases h with|ptrC f hk hc hv=>grind
def yP(h:VR I W .nilsl x):x=.slice none 0 0:=xel
theorem Fa{len cap:Nat}(h:VR I W (.slM l i off len cap sz tight) x):∃ k s o' cap',I l i=some (k,s)/\(cap=0∨o'=off+s)/\len<=cap/\cap<=cap'/\(tight=true->cap'=cap)/\x=.slice (some ⟨k,o',none⟩) len cap':=by cases h with|slM h ho hl hc ht hr=>exact⟨_,_,_,_,h,ho,hl,hc,ht,rfl⟩
theorem Xj{len cap:Nat}(h:VR I W (.slM l i off len cap sz tight) x):∃ k s o' cap',I l i=some (k,s)/\(cap=0∨o'=off+s)/\len<=cap/\cap<=cap'/\(tight=true->cap'=cap)/\Room W k (o'+cap'*sz)/\x=.slice (some ⟨k,o',none⟩) len cap':=by cases h with|slM h ho hl hc ht hr=>exact⟨_,_,_,_,h,ho,hl,hc,ht,hr,rfl⟩
theorem wk{len:Nat}(h:VR I W (.slC cs len sz tight) x):∃ k s cap' ad,(len≠0->jZ I W k)/\(∀(j:Nat)(z:IV),cs[j]?=some z->∃ y,W.cell? ⟨k,s+j,none⟩=some y/\VR I W z y)/\cs.length=len*sz/\len<=cap' /\
  (tight=true->cap'=len)/\(len≠0->ad=⟨k,s,none⟩)/\x=.slice (some ad) len cap':=by
 cases h with|slC f hk hc hv hn hl ht ha=>grind
def xy(h:VR I W .dY x):x=.map none:=xel
theorem IE(h:VR I W (.mapM l i) x):∃ k s,I l i=some (k,s)/\x=.map (some k):=by cases h with|mapM h=>grind
theorem fnI{c1:List IV}(h:VR I W (.fn f c1 c2) x):∃ a b:Array Value,dx I W c1 a.toList/\dx I W c2 b.toList/\x=.func (.func f) a b:=by cases h with|fn n1 n2 h1 h2=>exact⟨_,_,za1 n1 h1,za1 n2 h2,rfl⟩
theorem Eh(h:VR I W (.agg cs) x):∃ ws:Array Value,dx I W cs ws.toList/\x=.agg ws:=by cases h with|agg n h=>exact⟨_,za1 n h,rfl⟩
theorem zeh(h:VR I W (.tuple cs) x):∃ ws:Array Value,dx I W cs ws.toList/\x=.tuple ws:=by cases h with|tuple n h=>exact⟨_,za1 n h,rfl⟩
theorem za2{len:Nat}(hk:len≠0->jZ I W k)(hc:∀(j:Nat)(z:IV),cs[j]?=some z->∃ y,W.cell? ⟨k,s+j,none⟩=some y/\VR I W z y)(hn:cs.length=len*sz)(hl:len<=cap')(ht:tight=true->cap'=len)
  (ha:len≠0->ad=⟨k,s,none⟩):VR I W (.slC cs len sz tight) (.slice (some ad) len cap'):=by
 refine .slC (fun j=>(W.cell? ⟨k,s+j,none⟩).getD undef) hk (fun j z hz=>?_) (fun j z hz=>?_) hn hl ht ha
 .grind
 grind
def Fb{len:Nat}(hk:len≠0->jZ I W k)(hc:∀(j:Nat)(z:IV),cs[j]?=some z->∃ y,W.cell? ⟨k,s+j,none⟩=some y/\VR I W z y)(hn:cs.length=len*sz)(hl:len<=cap')(ht:tight=true->cap'=len) :
  VR I W (.slC cs len sz tight) (.slice (some ⟨k,s,none⟩) len cap'):=za2 hk hc hn hl ht fun _=>rfl
theorem zdt(hk:jZ I W k)(hc:∀(j:Nat)(z:IV),cs[j]?=some z->∃ y,W.cell? ⟨k,s+j,none⟩=some y/\VR I W z y):VR I W (.ptrC cs off) (.pointer (some ⟨k,off+s,none⟩)):=by
 refine .ptrC (fun j=>(W.cell? ⟨k,s+j,none⟩).getD undef) hk (fun j z hz=>?_) (fun j z hz=>?_)
 .grind
 grind
end
def cG(P:Program)(I:Pl)(W:World)(ev:Operand->Value)(o:Oper)(v:IV):Prop:=∃ x,(execOp ev o).run P W=.ok (.value x) W/\VR I W v x
variable {aU:aS}{m:Int}{op:BinOp}{ty ty':TypeId}{x' y':bD}{y:Operand}
section
variable {o:Oper} {aa:aS} {e:dI} 
theorem XG{y:bD}(ho:o.op=.move x)(ht:TR I W t a.tmps)(hx:bG x=some y):cG P I W a.eval o (ρ t y) :=
 ⟨a.eval x,by simp[execOp,ho],ht.eval hx⟩
theorem NQ{y:bD}(ho:o.op=.assign x)(ht:TR I W t a.tmps)(hx:bG x=some y):cG P I W a.eval o (ρ t y) :=
 ⟨a.eval x,by simp[execOp,ho],ht.eval hx⟩
theorem NJ{y:bD}(ho:o.op=.nilCheck x)(ht:TR I W t a.tmps)(hx:bG x=some y)(he:ef aa t y=some (e,v,aU)):e=.p/\aU=aa/\cG P I W a.eval o v:=by
 have hv:=ht.eval hx;unfold ef at he;split at he
 .rename_i heq;cases he;rw[heq]at hv;obtain⟨k,s,_,hx'⟩:=uG hv;exact xdp
 .rename_i heq;cases he;rw[heq]at hv;let⟨k,s,hx'⟩:=Of hv;exact xdp
 .rename_i heq;cases he;rw[heq]at hv;obtain⟨_,_,_,_,hx'⟩:=fnI hv;exact xdp
 grind
theorem XE{z:Operand}{z':bD}(ho:o.op=.pick x y z)(ht:TR I W t a.tmps)(hx:bG x=some x')(hy:bG y=some y')(hz:bG z=some z')
  (he:gZ aa t x' y' z'=some (e,v,aU)):e=.p/\aU=aa/\cG P I W a.eval o v:=by
 have hv:=ht.eval hx
 unfold gZ at he
 split at he
 .rename_i heq
  cases he
  rw[heq]at hv
  exact⟨rfl,rfl,a.eval y,by simp[execOp,ho,Z2 hv,asBool],ht.eval hy⟩
 .rename_i heq
  cases he
  rw[heq]at hv
  exact⟨rfl,rfl,a.eval z,by simp[execOp,ho,Z2 hv,asBool],ht.eval hz⟩
 grind
theorem MM{x:Option H}{f:H->IV}(h:(x.map fun z=>(dI.p,f z,aa))=some (e,v,aU)):∃ z,x=some z/\e=.p/\v=f z/\aU=aa:=by
 cases x with
 |none=>grind
 |some z=>grind
def zdn(op:BinOp)(ty:TypeId)(x y:Operand)(k k':IntKind)(m n:Int):(eqGuard op ty x y (.int k m) (.int k' n)).run P W=.ok () W:=xcq
def zdo(op:BinOp)(ty:TypeId)(x y:Operand)(m n:ByteArray):(eqGuard op ty x y (.string m) (.string n)).run P W=.ok () W:=xcq
def zb1(op:BinOp)(ty:TypeId)(x y:Operand)(m n:Bool):(eqGuard op ty x y (.bool m) (.bool n)).run P W=.ok () W:=xcq
def zdp(op:BinOp)(ty:TypeId)(x y:Operand)(m n:Option Addr):(eqGuard op ty x y (.pointer m) (.pointer n)).run P W=.ok () W:=xcq
def zei(op:BinOp)(ty:TypeId)(x y:Operand)(m n:Option Addr)(a1 a2 b1 b2:Nat):(eqGuard op ty x y (.slice m a1 a2) (.slice n b1 b2)).run P W=.ok () W:=xcq
theorem UL{k k':IntKind}{n:Int}(h:lX op (.int k m) (.int k' n)=some v):∃ x,(binOp op ty (.int k m) (.int k' n)).run P W=.ok x W/\VR I W v x:=by
 unfold lX at h;dsimp only at h;cases hs:dh op with
 |true =>
  rw[hs,bU rfl]at h
  unfold Fc at h
  rw[z6]at h
  by_cases h0:n<0
  .grind
  .rw[b9 h0]at h
   cases op<;>simp[dh,nv]at hs<;>(cases h;exact⟨_,by simp[binOp,Op.shift,h0]<;>rfl,.int _ _⟩)
 |false =>
  rw[hs,b9 M]at h
  by_cases hk:k=k'
  .subst hk
   unfold bA at h
   simp only[z6]at h
   cases op<;>simp[dh,Bool.true_eq_false]at hs<;>dsimp only at h
   case quo =>
    exact xcm
   case rem =>
    exact xcm
   all_goals first
    |(cases h;exact⟨_,by simp[binOp,Op.intArith,Op.intBits,Op.intCmp,ne_eq,zni,if_false,lq]<;>rfl,by first|exact .int _ _|exact .bool _⟩)
    |grind
  grind
theorem UJ{m n:ByteArray}(h:lX op (.str m) (.str n)=some v):∃ x,(binOp op ty (.string m) (.string n)).run P W=.ok x W/\VR I W v x:=by
 unfold lX at h;unfold mE at h;cases op<;>dsimp only at h;all_goals first
  |(cases h;exact⟨_,by rfl,.bool _⟩)
  |grind
theorem VJ(ho:o.op=.binOp op ty x y ty')(ht:TR I W t a.tmps)(hx:bG x=some x')(hy:bG y=some y')(he:((lX op (ρ t x') (ρ t y')).map fun v=>(dI.p,v,aa))=some (e,v,aU)) :
  e=.p/\aU=aa/\cG P I W a.eval o v:=by
 have hv:=ht.eval hx
 have hw:=ht.eval hy
 obtain⟨z,hz,rfl,rfl,rfl⟩:=MM he
 refine⟨rfl,rfl,?_⟩
 have hz0:=hz
 unfold lX at hz
 split at hz
 .rename_i k m k' n h1 h2
  rw[h1]at hv hz0;rw[h2]at hw hz0
  obtain⟨r,hr,r6⟩:=UL (P:=P) (ty:=ty) hz0
  exact⟨r,by simp[execOp,ho,Yz hv,Yz hw,zdn,hr],r6⟩
 .rename_i m n h1 h2
  rw[h1]at hv hz0;rw[h2]at hw hz0
  obtain⟨r,hr,r6⟩:=UJ (P:=P) (ty:=ty) hz0
  exact⟨r,by simp[execOp,ho,MN hv,MN hw,zdo,hr],r6⟩
 grind
theorem af5{op:UnOp}(ho:o.op=.unOp op ty x)(ht:TR I W t a.tmps)(hx:bG x=some x')(he:((Bs op (ρ t x')).map fun v=>(dI.p,v,aa))=some (e,v,aU)):e=.p/\aU=aa/\cG P I W a.eval o v:=by
 have hv:=ht.eval hx;obtain⟨z,hz,rfl,rfl,rfl⟩:=MM he;refine⟨rfl,rfl,?_⟩;unfold Bs at hz;split at hz
 .rename_i h1;cases hz;rw[h1]at hv;rw[z6];exact⟨.int _ _,by simp[execOp,ho,Yz hv,Op.unary,Op.intArith],.int _ _⟩
 .rename_i h1;cases hz;rw[h1]at hv;exact⟨.bool _,by simp[execOp,ho,Z2 hv,Op.unary],.bool _⟩
 grind
theorem XJ{ts td:TypeId}{k0 k:IntKind}(ho:o.op=.convert ts td x)(hs:P.underlying ts=some (.int k0))(hd:P.underlying td=some (.int k))(ht:TR I W t a.tmps)(hx:bG x=some x')(he:ij aa t k x'=some (e,v,aU)) :
  e=.p/\aU=aa/\cG P I W a.eval o v:=by
 have hv:=ht.eval hx
 unfold ij at he
 split at he
 .rename_i h1
  cases he
  rw[h1]at hv
  rw[z6]
  exact⟨rfl,rfl,.int _ _,by simp[execOp,ho,Yz hv,convert,run_underlying hs,run_underlying hd,Conv.intToInt],.int _ _⟩
 grind
theorem zej{xs:List Operand}{ys:List bD}(ht:TR I W t a.tmps)(h:allM bG xs=some ys):dx I W (ys.map (ρ t)) (xs.map a.eval):=by let⟨h1,h2⟩:=Z1 h;refine⟨by grind,fun j x y hx hy=>?_⟩;simp[qn,zky]at hx hy;obtain⟨y0,hy0,rfl⟩:=hx;obtain⟨x0,hx0,rfl⟩:=hy;let⟨y1,hy1,hc⟩:=h2 j x0 hx0;rw[hy0]at hy1;cases hy1;exact ht.eval hc
theorem XH{xs ys:Array Operand}{xs' ys':List bD}(ho:o.op=.makeFunc (.func f) xs ys)(ht:TR I W t a.tmps)(hx:allM bG xs.toList=some xs')(hy:allM bG ys.toList=some ys'):cG P I W a.eval o (.fn f (xs'.map (ρ t)) (ys'.map (ρ t))):=by
 have h1:=zej ht hx;have h2:=zej ht hy;refine⟨.func (.func f) (xs.map a.eval) (ys.map a.eval),by simp[execOp,ho,Instr.makeFunc],.fn (by have:=h1.1;grind) (by have:=h2.1;grind) (fun j x y hx hy=>h1.2 j x y hx ?_) (fun j x y hx hy=>h2.2 j x y hx ?_)⟩
 .grind
 grind
end
variable {el:TypeId}{fs:Array Field}{parts:Array (Nat×Operand)}{ps:List (Nat×Nat×bD)}{z:IV}
section
variable {o:Oper} {aa:aS} {e:dI} 
theorem Ds(off:Nat):∀{xs:List IV}{ys:List Value}(k:Nat){c:List IV}{cs:Array Value},dx I W xs ys->dx I W c cs.toList ->
  dx I W (dS c (off+k) xs) ((ys.zipIdx k).foldl (fun(cs:Array Value)(p:Value×Nat)=>cs.setIfInBounds (off+p.2) p.1) cs).toList
 |[],ys,k,c,cs,h,hc=>by
  cases ys with
  |nil=>exact hc
  |cons _ _=>exact absurd h.1 M
 |x::xs,ys,k,c,cs,h,hc=>by
  cases ys with
  |nil=>exact absurd h.1 M
  |cons y ys =>
   have hs:dx I W xs ys:=⟨by have:=h.1;grind,fun j a b ha hb=>h.2 (j+1) a b (by grind) (by grind)⟩
   exact Ds off (k+1) hs (by rw[znc];exact dx.set hc (h.2 0 x y rfl rfl) _)
theorem Xq{ys:Array Value}{c:List IV}{cs:Array Value}(h:dx I W xs ys.toList)(hc:dx I W c cs.toList) :
  dx I W (dS c off xs) (ys.zipIdx.foldl (fun(cs:Array Value)(p:Value×Nat)=>cs.setIfInBounds (off+p.2) p.1) cs).toList:=by
 have:=Ds off 0 h hc
 rw[←Array.foldl_toList,Array.toList_zipIdx]
 grind
theorem YB(g:Nat->Option (Nat×Nat)):∀{parts:List (Nat×Operand)}{ps:List (Nat×Nat×bD)}{c c':List IV}{cs:Array Value},TR I W t a.tmps->k7 g parts=some ps->dx I W c cs.toList->dX t c ps=some c' ->
  ∃ cs',Instr.fill g cs (parts.map fun p=>(p.1,a.eval p.2))=some cs'/\dx I W c' cs'.toList
 |[],ps,c,c',cs,ht,hp,hc,hf=>by simp only[k7,iw]at hp;subst hp;simp[dX,iw]at hf;subst hf;exact⟨cs,rfl,hc⟩
 |(i,x)::rest,ps,c,c',cs,ht,hp,hc,hf=>by
  simp[k7]at hp;split at hp
  .rename_i off n y ys h1 h2 h3;cases hp;simp only[dX,zi]at hf;split at hf
   .have hv:=zT (ht.eval h2);have hsz:(a.eval x).cells.size=n:=by have:=hv.1;grind
    have hcs:cs.size=c.length:=by have:=hc.1;grind
    let⟨cs',e1,e2⟩:=YB g ht h3 (Xq hv hc) hf;simp only[mQ,Instr.fill,h1];grind
   grind
  grind
theorem yH(h:iK P ty=some z):∃ i zv,P.info? ty=some i/\i.zero=some zv/\VR I W z zv:=by
 unfold iK at h;split at h
 .rename_i i hi;split at h
  .rename_i zv hz;exact⟨i,zv,hi,hz,M8 h⟩
  grind
 grind
theorem yz(h:cS P ty=some n):∃ i,P.info? ty=some i/\i.size=n:=by unfold cS at h;simp_all
theorem uH:∀{fs:List Field},fs.all (fun f=>(cS P f.type).isSome)=true->fs.mapM (fun f=>(P.info? f.type).map fun i=>(f.offset,i.size))=some (fs.map fun f=>(f.offset,(cS P f.type).getD 0))
 |[],_=>rfl
 |f::fs,h=>by simp only[oO,kE]at h;let⟨n,hn⟩:=zld.1 h.1;let⟨i,hi,hs⟩:=yz hn;simp[mq,hi,iJ,nY,nZ,iD,uH h.2,mQ,hn,hs,MF]
theorem zek(ho:o.op=.build ty parts)(hu:P.underlying ty=some (.struct fs))(hz:iK P ty=some z)
  (hall:fs.toList.all (fun f=>(cS P f.type).isSome)=true) (hp:k7 (fun i=>match fs[i]? with|some f=>(cS P f.type).map (f.offset,·)|none=>none) parts.toList=some ps) (ht:TR I W t a.tmps)
  (he:((dX t z.cells ps).map fun c=>(dI.p,IV.agg c,aa))=some (e,v,aU)):e=.p/\aU=aa/\cG P I W a.eval o v:=by
 obtain⟨c',EM,rfl,rfl,rfl⟩:=MM he
 refine⟨rfl,rfl,?_⟩
 obtain⟨i,zv,hi,EI,hv⟩:=yH hz
 let⟨cs',e1,e2⟩:=YB _ ht hp (zT hv) EM
 refine⟨.agg cs',?_,zec e2⟩
 have hb:P.built ty (parts.map fun p=>(p.1,a.eval p.2)).toList=some cs':=by
  unfold Program.built;simp only[hi,hu,EI,uH hall];rw[←e1,zns];congr 1;funext i;simp only[zko,qn];cases hf:fs[i]? with
  |none=>grind
  |some f =>
   let⟨n,hn⟩:=zld.1 (nu.1 hall f (by grind))
   grind
 exact xdh
theorem tB{len:Nat}(ho:o.op=.build ty parts)(hu:P.underlying ty=some (.array len el))(hz:iK P ty=some z)(hn:cS P el=some n)
  (hp:k7 (fun i=>some (i*n,n)) parts.toList=some ps) (ht:TR I W t a.tmps)
  (he:((dX t z.cells ps).map fun c=>(dI.p,IV.agg c,aa))=some (e,v,aU)):e=.p/\aU=aa/\cG P I W a.eval o v:=by
 obtain⟨c',EM,rfl,rfl,rfl⟩:=MM he
 refine⟨rfl,rfl,?_⟩
 obtain⟨i,zv,hi,EI,hv⟩:=yH hz
 let⟨ie,hie,hs⟩:=yz hn
 let⟨cs',e1,e2⟩:=YB _ ht hp (zT hv) EM
 refine⟨.agg cs',?_,zec e2⟩
 have hb:P.built ty (parts.map fun p=>(p.1,a.eval p.2)).toList=some cs':=by unfold Program.built;simp_all
 exact xdh
theorem yN(z:List IV):∀ n,(rep z n).length=n*z.length
 |0=>by simp[rep]
 |n+1=>by simp[rep,mV,yN z n,JW,Ba];omega
theorem HV(z:List IV)(hz:0<z.length):∀(n j:Nat),j<n*z.length->(rep z n)[j]?=z[j%z.length]?
 |0,j,h=>absurd h M
 |n+1,j,h=>by
  simp[rep];by_cases hj:j<z.length
  .rw[pN hj,M0 hj]
  .rw[q8 (zmt hj),HV z hz n (j-z.length) (by grind)];conv=>rhs;rw[show j=j-z.length+z.length by omega,znj]
theorem za3{z:List IV}{zs:Array Value}(h:dx I W z zs.toList)(hz:0<z.length)(n:Nat):dx I W (rep z n) ((Array.range (n*z.length)).map (zs[·%zs.size]!)).toList:=by
 have hl:zs.size=z.length:=by have:=h.1;grind
 refine⟨by simp[yN],fun j x y hx hy=>?_⟩;rw[HV z hz n j (by grind)]at hx;refine h.2 _ x y hx ?_;grind
end
def NX(I:Pl)(W:World)(v:IV):Next->Prop
 |.value x=>VR I W v x
 |.skip=>v=.tuple []
 |_=>False
def fM(P:Program)(d:Nat)(ah:bq)(I:Pl)(W:World)(ev:Operand->Value)(o:Oper)(v:IV)(aU:aS):Prop :=
 ∃ nx β' W',(execOp ev o).run P W=.ok nx W'/\NX β' W' v nx/\RS β' (look d ah aU) W'/\Fr d I W β' W'
variable {neg:Bool}
section
variable {o:Oper} {aa:aS} {e:dI} 
def cG.step(h:cG P I W a.eval o v)(hR:RS I (look d ah aa) W):fM P d ah I W a.eval o v aa :=
 let⟨x,h1,h2⟩:=h;⟨.value x,I,W,h1,h2,hR,Fr.refl _ _ _⟩
def NR(hR:RS I (look d ah aa) W)(O:Obj):RS I (look d ah aa) (W.alloc O)/\Fr d I W I (W.alloc O) :=
 ⟨hR.old (fun k hk=>Below.heap_alloc W O k hk) M,⟨fun _ _ _ h=>h,fun _ _ _ _ h=>.inl h,fun k hk _=>Below.heap_alloc W O k hk,M,fun k c t f hc=>⟨c,(Below.heap_alloc W O k (RQ.1 hc).1).trans hc,rfl⟩,rfl,rfl,rfl⟩⟩
theorem Z3(W:World)(O:Obj):(W.alloc O).heap[W.heap.size]?=some O:=by show(W.heap.push O)[W.heap.size]?=some O;simp
theorem NP{len:Nat}(ho:o.op=.buildSlice ty len parts)(hu:P.underlying ty=some (.slice el))(hz:iK P el=some z)(hn:cS P el=some n)
  (h24:len*n<=2 ^ 24) (hzl:z.cells.length=n) (hn0:0<n) (hp:k7 (fun i=>some (i*n,n)) parts.toList=some ps) (ht:TR I W t a.tmps) (hR:RS I (look d ah aa) W)
  (he:((dX t (rep z.cells len) ps).map fun c=>(dI.p,IV.slC c len n true,aa))=some (e,v,aU)):e=.p/\aU=aa/\fM P d ah I W a.eval o v aa:=by
 obtain⟨c',EM,rfl,rfl,rfl⟩:=MM he
 refine⟨rfl,rfl,?_⟩
 obtain⟨i,zv,hi,EI,hv⟩:=yH (I:=I) (W:=W) hz
 let⟨ie,hie,hs⟩:=yz hn
 obtain rfl:i=ie:=by grind
 have e0:dx I W (rep z.cells len) (if len*n=0 then(#[]:Array Value)else(Array.range (len*n)).map (zv.cells[·%zv.cells.size]!)).toList:=by
  exact xbm
 let⟨cs',e1,e2⟩:=YB _ ht hp e0 EM
 let⟨qU,hF⟩:=NR hR (.cells cs' el)
 refine⟨.value (.slice (some ⟨W.heap.size,0,none⟩) len len),I,W.alloc (.cells cs' el),?_,?_,qU,hF⟩
 .exact xad
 .have hlr:∀{c c'':List IV}{ps},dX t c ps=some c''->c''.length=c.length:=by
   intro c c'' ps;exact xak
  refine Fb (fun hne=>⟨M,fun l i s hb=>?_⟩) (fun j zz hj=>?_) (by rw[hlr EM,yN,hzl]) (cI _) (fun _=>rfl)
  .have:=hR.here _ _ _ _ hb;omega
  .let⟨y,hy,qN⟩:=e2.get hj
   refine⟨y,?_,qN.ext hF.ext⟩
   simp_all
theorem abx(ho:o.op=.binOp op ty x y ty')(hop:op=if neg then .neq else .eql)(hu:P.underlying ty=some .bool)(ht:TR I W t a.tmps)(hx:bG x=some x')(hy:bG y=some y')
  (he:((Gd (ρ t x') (ρ t y')).map fun v=>(dI.p,IV.bool (neg != v),aa))=some (e,v,aU)):e=.p/\aU=aa/\cG P I W a.eval o v:=by
 have hv:=ht.eval hx
 have hw:=ht.eval hy
 obtain⟨z,hz,rfl,rfl,rfl⟩:=MM he
 refine⟨rfl,rfl,?_⟩
 unfold Gd at hz
 split at hz
 .rename_i m n h1 h2
  rw[h1]at hv;rw[h2]at hw
  cases hz
  cases neg<;>(subst hop;exact⟨_,by simp[execOp,ho,Z2 hv,Z2 hw,zb1,run_eql_bool W ty m n hu,run_neq_bool W ty m n hu]<;>rfl,.bool _⟩)
 grind
theorem tC(hu:P.underlying ty=some (.pointer el))(p q:Option Addr)(h:p=none∨q=none):(Op.equal ty (.pointer p) (.pointer q)).run P W=.ok (p.isNone&&q.isNone) W:=by
 show(Op.equalIn (9999+1) ty (.pointer p) (.pointer q)).run P W=_;exact xdq
theorem wL(hu:P.underlying ty=some (.slice el))(p q:Option Addr)(n c n' c':Nat)(h:p=none∨q=none):(Op.equal ty (.slice p n c) (.slice q n' c')).run P W=.ok (p.isNone&&q.isNone) W:=by
 show(Op.equalIn (9999+1) ty (.slice p n c) (.slice q n' c')).run P W=_;exact xdq
theorem UK(hop:op=if neg then .neq else .eql)(hu:P.underlying ty=some (.pointer el))(p q:Option Addr)(h:p=none∨q=none) :
  (binOp op ty (.pointer p) (.pointer q)).run P W=.ok (.bool (neg != (p.isNone&&q.isNone))) W:=by
 have:=tC (W:=W) hu p q h
 cases neg
 .subst hop
  show(do pure (.bool (←Op.equal ty (.pointer p) (.pointer q))):Sem Value).run P W=_
  simp_all
 .subst hop
  show(do pure (.bool (!(←Op.equal ty (.pointer p) (.pointer q)))):Sem Value).run P W=_
  simp_all
theorem aaz(hop:op=if neg then .neq else .eql)(hu:P.underlying ty=some (.slice el))(p q:Option Addr)(n c n' c':Nat)(h:p=none∨q=none) :
  (binOp op ty (.slice p n c) (.slice q n' c')).run P W=.ok (.bool (neg != (p.isNone&&q.isNone))) W:=by
 have:=wL (W:=W) hu p q n c n' c' h
 cases neg
 .subst hop
  show(do pure (.bool (←Op.equal ty (.slice p n c) (.slice q n' c'))):Sem Value).run P W=_
  simp_all
 .subst hop
  show(do pure (.bool (!(←Op.equal ty (.slice p n c) (.slice q n' c')))):Sem Value).run P W=_
  simp_all
theorem abw(ho:o.op=.binOp op ty x y ty')(hop:op=if neg then .neq else .eql)(hu:P.underlying ty=some (.pointer el))(ht:TR I W t a.tmps)(hx:bG x=some x')(hy:bG y=some y')
  (he:((jX (ρ t x') (ρ t y')).map fun v=>(dI.p,IV.bool (neg != v),aa))=some (e,v,aU)):e=.p/\aU=aa/\cG P I W a.eval o v:=by
 have hv:=ht.eval hx
 have hw:=ht.eval hy
 obtain⟨z,hz,rfl,rfl,rfl⟩:=MM he
 refine⟨rfl,rfl,?_⟩
 have key:∃ p q:Option Addr,a.eval x=.pointer p/\a.eval y=.pointer q/\(p=none∨q=none)/\z=(p.isNone&&q.isNone):=by
  unfold jX at hz;split at hz
  .rename_i h1 h2;rw[h1]at hv;rw[h2]at hw;cases hz;exact⟨none,none,Yl hv,Yl hw,.inl rfl,rfl⟩
  .rename_i h1 h2;rw[h1]at hv;rw[h2]at hw;cases hz;obtain⟨k,s,_,hq⟩:=uG hw;exact⟨none,_,Yl hv,hq,.inl rfl,rfl⟩
  .rename_i h1 h2;rw[h1]at hv;rw[h2]at hw;cases hz;let⟨k,s,hq⟩:=Of hw;exact⟨none,_,Yl hv,hq,.inl rfl,rfl⟩
  .rename_i h1 h2;rw[h1]at hv;rw[h2]at hw;cases hz;obtain⟨k,s,_,hq⟩:=uG hv;exact⟨_,none,hq,Yl hw,.inr rfl,rfl⟩
  .rename_i h1 h2;rw[h1]at hv;rw[h2]at hw;cases hz;let⟨k,s,hq⟩:=Of hv;exact⟨_,none,hq,Yl hw,.inr rfl,rfl⟩
  grind
 obtain⟨p,q,e1,e2,h,rfl⟩:=key
 exact⟨_,by simp[execOp,ho,e1,e2,jB,zdp,jJ,UK hop hu p q h,lq]<;>rfl,.bool _⟩
theorem abv(ho:o.op=.binOp op ty x y ty')(hop:op=if neg then .neq else .eql)(hu:P.underlying ty=some (.slice el))(ht:TR I W t a.tmps)(hx:bG x=some x')(hy:bG y=some y')
  (he:((Lx (ρ t x') (ρ t y')).map fun v=>(dI.p,IV.bool (neg != v),aa))=some (e,v,aU)):e=.p/\aU=aa/\cG P I W a.eval o v:=by
 have hv:=ht.eval hx
 have hw:=ht.eval hy
 obtain⟨z,hz,rfl,rfl,rfl⟩:=MM he
 refine⟨rfl,rfl,?_⟩
 have key:∃(p q:Option Addr)(n c n' c':Nat),a.eval x=.slice p n c/\a.eval y=.slice q n' c'/\(p=none∨q=none)/\z=(p.isNone&&q.isNone):=by
  unfold Lx at hz;split at hz
  .rename_i h1 h2;rw[h1]at hv;rw[h2]at hw;cases hz;exact⟨none,none,_,_,_,_,yP hv,yP hw,.inl rfl,rfl⟩
  .rename_i h1 h2;rw[h1]at hv;rw[h2]at hw;cases hz;obtain⟨_,_,_,_,_,_,_,_,_,hq⟩:=Fa hw;exact⟨none,_,_,_,_,_,yP hv,hq,.inl rfl,rfl⟩
  .rename_i h1 h2;rw[h1]at hv;rw[h2]at hw;cases hz;obtain⟨_,_,_,_,_,_,_,_,_,_,hq⟩:=wk hw;exact⟨none,_,_,_,_,_,yP hv,hq,.inl rfl,rfl⟩
  .rename_i h1 h2;rw[h1]at hv;rw[h2]at hw;cases hz;obtain⟨_,_,_,_,_,_,_,_,_,hq⟩:=Fa hv;exact⟨_,none,_,_,_,_,hq,yP hw,.inr rfl,rfl⟩
  .rename_i h1 h2;rw[h1]at hv;rw[h2]at hw;cases hz;obtain⟨_,_,_,_,_,_,_,_,_,_,hq⟩:=wk hv;exact⟨_,none,_,_,_,_,hq,yP hw,.inr rfl,rfl⟩
  grind
 obtain⟨p,q,n,c,n',c',e1,e2,h,rfl⟩:=key
 exact⟨_,by simp[execOp,ho,e1,e2,jB,zei,jJ,aaz hop hu p q n c n' c' h,lq]<;>rfl,.bool _⟩
end
variable {V5:bD}
section
variable {o:Oper} {aa:aS} {e:dI} 
theorem SY{s:TypeId}{fd:Field}{f:Nat}(ho:o.op=.fieldAddr s x f)(hu:P.underlying s=some (.struct fs))(hf:fs[f]?=some fd)(hn:cS P fd.type=some n)(hn0:n≠0)(ht:TR I W t a.tmps)(hx:bG x=some x')
  (he:fH aa t fd.offset x'=some (e,v,aU)):e=.p/\aU=aa/\cG P I W a.eval o v:=by
 have hv:=ht.eval hx
 have run:∀ k s',(Instr.fieldAt s (.pointer (some ⟨k,s',none⟩)) f).run P W=.ok (.pointer (some ⟨k,s'+fd.offset,none⟩)) W:=fun k s'=>by simp only[Instr.fieldAt,jB,run_underlying hu,jJ,hf,Instr.sureAddr,lq,fieldPlace,yh hn];rw[b9 hn0];simp only[lq,jJ];rw[ZE rfl]
 unfold fH at he
 split at he
 .rename_i l i off h1
  cases he
  rw[h1]at hv
  let⟨k,s',hb,hq⟩:=uG hv
  refine⟨rfl,rfl,_,?_,.ptrM hb⟩
  simp only[execOp,ho,hq,jB,run,jJ,lq]
  grind
 .rename_i cs off h1
  cases he
  rw[h1]at hv
  let⟨k,s',hk,hc,hq⟩:=Oe hv
  refine⟨rfl,rfl,_,?_,zdt hk hc⟩
  simp only[execOp,ho,hq,jB,run,jJ,lq]
  grind
 grind
theorem yS(ht:TR I W t a.tmps)(hx:bG x=some x')(h:lg (ρ t x')=some j):∃ k:IntKind,∃ n:Int,a.eval x=.int k n/\0<=n/\n.toNat=j:=by
 have hv:=ht.eval hx;unfold lg at h;split at h
 .rename_i k n h1;split at h
  .rename_i h0;rw[h1]at hv;exact⟨k,n,Yz hv,h0,by grind⟩
  grind
 grind
theorem SX{ix:Operand}(ho:o.op=.indexAddr ty x ix)(hu:P.underlying ty=some (.slice el))(hn:cS P el=some n)(ht:TR I W t a.tmps)(hx:bG x=some x')(hix:bG ix=some V5)
  (he:mM aa t n x' V5=some (e,v,aU)):e=.p/\aU=aa/\cG P I W a.eval o v:=by
 have hv:=ht.eval hx
 unfold mM at he
 have run:∀(b:Addr)(len cap:Nat)(k:IntKind)(i:Int),0<=i->i.toNat<len->b.spot=none->(Instr.indexAt ty (.slice (some b) len cap) (.int k i)).run P W=.ok (.pointer (some ⟨b.block,b.off+i.toNat*n,none⟩)) W:=fun b len cap k i h0 h1 hb=>by simp only[Instr.indexAt,asIntOf,jB,lq,jJ,run_underlying hu];rw[bU ⟨h0,Z⟩];simp only[jB,yh hn,jJ,lq];rw[ZE hb]
 split at he
 .rename_i l i off len cap sz tight j h1 h2
  obtain⟨k,m,hq,h0,rfl⟩:=yS ht hix h2
  split at he
  .rename_i au
   cases he
   rw[h1]at hv
   let⟨kb,s,o',cap',hb,hoff,hl,hc,FY,hx2⟩:=Fa hv
   refine⟨rfl,rfl,_,?_,.ptrM hb⟩
   exact xfa
  grind
 .rename_i cs len sz tight j h1 h2
  obtain⟨k,m,hq,h0,rfl⟩:=yS ht hix h2
  split at he
  .rename_i au
   cases he
   rw[h1]at hv
   let⟨kb,s,cap',ad,hk,hc,hnn,hl,FY,F7,hx2⟩:=wk hv
   obtain rfl:=F7 Z
   refine⟨rfl,rfl,_,?_,zdt (hk Z) hc⟩
   exact xfa
  grind
 grind
theorem Om(hl:loadT P ty=some (agg,n))(h:dx I W cs ws.toList)(hr:(bB cs off n).bind (ql agg)=some v):∃ x,(part ty ws off).run P W=.ok x W/\VR I W v x:=by
 unfold loadT at hl;cases hu:P.underlying ty with
 |none=>grind
 |some u =>
  cases hs:cS P ty with
  |none=>grind
  |some n0 =>
   rw[hu,hs]at hl
   dsimp only at hl
   cases hx:bB cs off n with
   |none=>grind
   |some xs =>
    rw[hx]at hr
    let⟨h1,h2⟩:=zed hx
    cases ha:gO u with
    |true =>
     rw[ha]at hl
     simp only[if_true,iw,vT]at hl
     let⟨rfl,rfl⟩:=hl
     rw[CJ hr]
     refine⟨.agg (ws.extract off (off+n0)),by simp[part,y7 hu,ha,yh hs],?_⟩
     have hlen:n0≠0->off+n0<=cs.length:=fun h0=>by have h3:=h2 (n0-1) Z;grind
     have hw:ws.size=cs.length:=by have:=h.1;grind
     have e:dx I W xs (ws.extract off (off+n0)).toList:=by
      refine⟨?_,fun j x y hjx hjy=>?_⟩
      .grind
      .rw[h2 j (h1▸(ew.1 hjx).1)]at hjx;refine h.2 _ x y hjx ?_;grind
     refine .agg (by grind) fun j x y hjx hjy=>e.2 j x y hjx (by grind)
    |false =>
     rw[ha]at hl
     obtain⟨rfl,rfl⟩:=hl
     have hxs:=uP hr
     subst hxs
     have h3:=h2 0 Z
     obtain⟨y,hy,qN⟩:=h.get (j:=off) (x:=v) (by grind)
     rw[EA]at hy
     exact⟨y,by simp[part,y7 hu,ha,hy],qN⟩
theorem SV{len:Nat}{ix:Operand}(ho:o.op=.index ty x ix)(hu:P.underlying ty=some (.array len el))(hl:loadT P el=some (agg,n))(hn:cS P el=some n)(ht:TR I W t a.tmps)(hx:bG x=some x')(hix:bG ix=some V5)
  (he:cE aa t agg n len x' V5=some (e,v,aU)):e=.p/\aU=aa/\cG P I W a.eval o v:=by
 have hv:=ht.eval hx
 unfold cE at he
 split at he
 .rename_i cs j h1 h2
  obtain⟨k,m,lQ,h0,rfl⟩:=yS ht hix h2
  split at he
  .obtain⟨z,hz,rfl,rfl,rfl⟩:=MM he
   rw[h1]at hv
   let⟨ws,V9,hq⟩:=Eh hv
   let⟨x2,hx2,MP⟩:=Om hl V9 hz
   refine⟨rfl,rfl,x2,?_,MP⟩
   simp only[execOp,ho,hq,lQ,jB,Instr.index,asIntOf,lq,run_underlying hu,jJ]
   rw[bU ⟨h0,Z⟩]
   simp[jB,yh hn,jJ,hx2]
  grind
 grind
theorem NO{ix:Operand}(ho:o.op=.index ty x ix)(hu:P.underlying ty=some .string)(ht:TR I W t a.tmps)(hx:bG x=some x')(hix:bG ix=some V5)
  (he:kZ aa t x' V5=some (e,v,aU)):e=.p/\aU=aa/\cG P I W a.eval o v:=by
 have hv:=ht.eval hx
 unfold kZ at he
 split at he
 .rename_i s j h1 h2
  obtain⟨k,m,lQ,h0,rfl⟩:=yS ht hix h2
  split at he
  .rename_i b hb
   cases he
   rw[h1]at hv
   refine⟨rfl,rfl,.int .u8 b.toNat,?_,.int _ _⟩
   simp[execOp,ho,MN hv,lQ,jB,Instr.index,asIntOf,lq,run_underlying hu,jJ,bU h0,hb]
  grind
 grind
theorem Ky(ho:o.op=.extract x i)(ht:TR I W t a.tmps)(hx:bG x=some x')(he:bF aa t x' i=some (e,v,aU)):e=.p/\aU=aa/\cG P I W a.eval o v:=by
 have hv:=ht.eval hx;unfold bF at he;split at he
 .rename_i vs h1;obtain⟨z,hz,rfl,rfl,rfl⟩:=MM he;rw[h1]at hv;let⟨ws,V9,hq⟩:=zeh hv;let⟨y,hy,qN⟩:=V9.get hz;rw[EA]at hy;exact⟨rfl,rfl,y,by simp[execOp,ho,hq,jB,Instr.extract,hy,lq,jJ],qN⟩
 grind
end
def WZ(o:Option Value)(dflt n:Nat):Prop:=(o=none/\n=dflt)∨∃(k:IntKind)(i:Int),o=some (.int k i)/\0<=i/\i.toNat=n
variable {dflt:Nat}{mx:Option Value}
section
variable {o:Oper} {aa:aS} {e:dI} 
theorem yW{x:Option Operand}{x':Option bD}(ht:TR I W t a.tmps)(hx:mU x=some x')(h:kI t dflt x'=some n):WZ (x.map a.eval) dflt n:=by
 cases x with
 |none=>simp[mU,iw]at hx;subst hx;simp[kI,iw]at h;exact .inl ⟨rfl,h.symm⟩
 |some y =>
  simp only[mU]at hx
  cases hy:bG y with
  |none=>grind
  |some y' =>
   rw[hy]at hx;cases hx
   let⟨k,i,h1,h2,h3⟩:=yS ht hy h
   exact .inr ⟨k,i,by grind,h2,h3⟩
theorem sS{x:Option Operand}{x':Option bD}(hx:mU x=some x'):x'.isSome=x.isSome:=by
 cases x with
 |none=>simp[mU,iw]at hx;grind
 |some y =>
  simp only[mU]at hx
  cases hy:bG y with
  |none=>grind
  |some y'=>grind
theorem Zp{x:Value}{y:Nat}(code:BoundsCode)(h:WZ (some x) dflt n)(hn:n<=y):(Instr.sliceBound x y code).run P W=.ok n W:=by
 rcases h with⟨h,_⟩|⟨k,i,h,h0,rfl⟩
 .grind
 .cases h;exact run_sliceBound W k i y code h0 Z
theorem zal{lo hi:Option Value}{len cap h m:Nat}(hm:WZ mx cap m)(hmc:m<=cap)(hh:WZ hi len h)(hhm:h<=m)(hl:WZ lo 0 l)(hlh:l<=h)(hx:mx.isSome=true->hi.isSome=true) :
  (Instr.sliceBounds b len cap lo hi mx).run P W=.ok (l,h,m) W:=by
 unfold Instr.sliceBounds
 cases mx with
 |none =>
  obtain rfl:m=cap:=by rcases hm with⟨_,h⟩|⟨_,_,h,_⟩<;>first|grind|grind
  cases hi with
  |none =>
   obtain rfl:h=len:=by rcases hh with⟨_,h⟩|⟨_,_,h,_⟩<;>first|grind|grind
   cases lo with
   |none =>
    obtain rfl:l=0:=xb8
    simp
   |some z=>simp[Zp _ hl hlh]
  |some y =>
   cases lo with
   |none =>
    obtain rfl:l=0:=xb8
    simp[Zp _ hh hhm]
   |some z=>simp[Zp _ hh hhm,Zp _ hl hlh]
 |some q =>
  cases hi with
  |none=>grind
  |some y =>
   cases lo with
   |none =>
    obtain rfl:l=0:=xb8
    simp[Zp _ hm hmc,Zp _ hh hhm]
   |some z=>simp[Zp _ hm hmc,Zp _ hh hhm,Zp _ hl hlh]
theorem WZ.cap{c c' m:Nat}(h:WZ mx c m)(hc:c<=c')(hm:m<=c):∃ m',WZ mx c' m'/\m<=m'/\m'<=c'/\(mx.isSome=true->m'=m)/\(mx.isSome=false->m=c/\m'=c'):=by
 rcases h with⟨rfl,rfl⟩|⟨k,i,rfl,h0,rfl⟩
 .exact⟨c',.inl ⟨rfl,rfl⟩,hc,cI _,fun h=>by grind,fun _=>⟨rfl,rfl⟩⟩
 .exact⟨_,.inr ⟨k,i,rfl,h0,rfl⟩,cI _,iQ hm hc,fun _=>rfl,fun h=>by grind⟩
theorem SS{lo hi mx:Option Operand}{lo' hi' mx':Option bD}(ho:o.op=.slice ty x lo hi mx)(hu:P.underlying ty=some (.slice el))(hn:cS P el=some n)(ht:TR I W t a.tmps)
  (hx:bG x=some x') (h1:mU lo=some lo') (h2:mU hi=some hi') (h3:mU mx=some mx') (hmx:¬ (mx.isSome&&hi.isNone)=true)
  (he:((dA n t (ρ t x') lo' hi' mx').map fun v=>(dI.p,v,aa))=some (e,v,aU)):e=.p/\aU=aa/\cG P I W a.eval o v:=by
 have hv:=ht.eval hx
 obtain⟨z,hz,rfl,rfl,rfl⟩:=MM he
 refine⟨rfl,rfl,?_⟩
 have RW:(mx.map a.eval).isSome=true->(hi.map a.eval).isSome=true:=by cases mx<;>cases hi<;>simp at hmx ⊢
 have run:∀(p:Option Addr)(len cap l h m:Nat),(Instr.sliceBounds true len cap (lo.map a.eval) (hi.map a.eval) (mx.map a.eval)).run P W=.ok (l,h,m) W ->
   (Instr.sliceAt ty (.slice p len cap) (lo.map a.eval) (hi.map a.eval) (mx.map a.eval)).run P W=.ok (.slice (if m=l then p else p.map (·.add (l*n))) (h-l) (m-l)) W:=fun p len cap l h m hb=>by
  simp[Instr.sliceAt,Instr.slice,jB,run_underlying hu,jJ,hb,yh hn,lq]
 unfold dA at hz
 split at hz
 .rename_i q1
  split at hz
  .rename_i l h m e1 e2 e3
   split at hz
   .rename_i hc
    cases hz
    rw[q1]at hv
    refine⟨.slice none 0 0,?_,.nilsl⟩
    simp only[execOp,ho,yP hv,jB,run _ _ _ _ _ _ (zal (P:=P) (W:=W) (b:=true) (yW ht h3 e3) hc.1 (yW ht h2 e2) hc.2.1 (yW ht h1 e1) hc.2.2 RW),jJ,lq]
    grind
   grind
  grind
 .rename_i lv i off len cap sz tight q1
  split at hz
  .rename_i l h m e1 e2 e3
   split at hz
   .rename_i hc
    obtain⟨hc,rfl⟩:=hc
    cases hz
    rw[q1]at hv
    let⟨k,s,o',cap',hb,hoff,hl,sD,FY,hroom,hq⟩:=Xj hv
    let⟨m',hm',g1,g2,g3,g4⟩:=(yW ht h3 e3).cap sD hc.1
    have F0:mx'.isSome=(mx.map a.eval).isSome:=by rw[sS h3];simp
    have hone:∃ o2,(if m'=l then(some ⟨k,o',none⟩:Option Addr)else(some ⟨k,o',none⟩:Option Addr).map (·.add (l*sz)))=some ⟨k,o2,none⟩/\(m-l=0∨o2=off+l*sz+s)/\o2+(m'-l)*sz<=o'+cap'*sz:=by
     by_cases hml:m'=l
     .grind
     .rw[b9 hml];refine⟨o'+l*sz,by simp[ZE],?_,?_⟩
      .omega
      .rw[tq,←JW];exact zle (MI _ Z) _
    let⟨o2,EK,ho3,ho4⟩:=hone
    refine⟨_,?_,.slM hb (o':=o2) (cap':=m'-l) ho3 Z Z (fun h=>?_) (let⟨c1,t1,f1,r1,r2⟩:=hroom;⟨c1,t1,f1,r1,iQ ho4 r2⟩)⟩
    .exact xb4
    .simp[vX]at h
     rcases h with h|h
     .grind
     .have:=FY h
      cases hss:(mx.map a.eval).isSome with
      |true=>grind
      |false=>grind
   grind
  grind
 .rename_i cs len sz tight q1
  split at hz
  .rename_i l h m e1 e2 e3
   split at hz
   .rename_i hc
    obtain⟨hc,rfl⟩:=hc
    cases hz
    rw[q1]at hv
    let⟨k,s,cap',ad,hk,hcell,hlen,hl,FY,F7,hq⟩:=wk hv
    let⟨m',hm',g1,g2,g3,g4⟩:=(yW ht h3 e3).cap hl hc.1
    have F0:mx'.isSome=(mx.map a.eval).isSome:=by rw[sS h3];simp
    have hone:∃ a2:Addr,(if m'=l then(some ad:Option Addr)else(some ad:Option Addr).map (·.add (l*sz)))=some a2/\(h-l≠0->a2=⟨k,s+l*sz,none⟩):=by
     by_cases hml:m'=l
     .grind
     .rw[b9 hml];refine⟨ad.add (l*sz),rfl,fun h0=>?_⟩;rw[F7 Z];exact ZE rfl _
    let⟨a2,EK,ho3⟩:=hone
    rw[zi]
    have hle:l*sz+(h-l)*sz<=cs.length:=by rw[hlen,←JW];exact MI _ Z
    refine⟨_,?_,za2 (s:=s+l*sz) (cap':=m'-l) (fun h0=>hk Z) (fun j zz hj=>?_) ?_ Z (fun hg=>?_) ho3⟩
    .exact xb4
    .grind
    .grind
    grind
   grind
  grind
 grind
end
def He(aJ aa:aS):Prop:=∀(i:Nat)(o:aP),aJ[i]?=some o->o.live=true->aa[i]?=some o
def He.refl(aa:aS):He aa aa:=fun _ _ h _=>h
variable {aJ:aS}
theorem YC{aa:aS}(h:He aJ aa){o:aP}(hl:look d ah aJ l i=some o)(ho:o.live=true):look d ah aa l i=some o:=by
 unfold look at hl ⊢;split
 .rename_i e;rw[bU e]at hl;exact h i o hl ho
 grind
theorem yt{aa:aS}{id:Nat}{o:aP}{u:IV}{e:dI}(h:dD aa id o u=some (e,v,aU)):aa[id]?=some .free/\e=.a/\v=u/\aU=aa.set id o:=by
 unfold dD at h;split at h
 .rename_i hf;cases h;exact⟨hf,rfl,rfl,zi _⟩
 grind
theorem za4:∀(xs:List IV)(c:List IV)(off:Nat),(dS c off xs).length=c.length
 |[],_,_=>rfl
 |x::xs,c,off=>by simp[dS];rw[za4 xs];simp
theorem ZP:∀(xs:List IV)(c:List IV)(off j:Nat),off+xs.length<=c.length->(dS c off xs)[j]?=if off<=j/\j<off+xs.length then xs[j-off]? else c[j]?
 |[],c,off,j,_=>by simp only[dS,gq];grind
 |x::xs,c,off,j,h=>by simp only[dS];rw[ZP xs (c.set off x) (off+1) j (by grind)];grind
variable {n0 slot:Nat}
section
variable {o:Oper} {aa:aS} {e:dI} 
theorem wN{id:Nat}{c:List IV}{cs:Array Value}(hR:RS I (look d ah aa) W)(hf:aa[id]?=some .free)(h:dx I W c cs.toList)(hW:∃ q,W'=({ W with drawn:=q }:World).alloc (.cells cs ty)) :
  RS (upd I d id (W.heap.size,0)) (look d ah (aa.set id (.cells c))) W'/\Fr d I W (upd I d id (W.heap.size,0)) W':=by
 obtain⟨q,rfl⟩:=hW
 refine zee hR hf (fun l i s' o' hb _ _=>absurd (hR.here _ _ _ _ hb) Z) (.inl (cI _)) (fun k2 _ hk2=>Below.heap_alloc _ _ k2 hk2) M M (fun c t f hc=>absurd (RQ.1 hc).1 (zmw _)) rfl rfl rfl (fun e=>?_)
 refine⟨cs,ty,Z3 _ _,fun j x hx=>?_⟩
 let⟨y,hy,hv⟩:=h.get hx
 rw[EA]at hy
 exact⟨y,hy,hv.ext e⟩
theorem XI(ho:o.op=.load ty x)(hl:loadT P ty=some (agg,n))(hx:bG x=some x')(ht:TR I W t a.tmps)(hR:RS I (look d ah aa) W)(hV:He aJ aa)
  (he:ig d ah aJ aa t agg n x'=some (e,v,aU)):aU=aa/\cG P I W a.eval o v:=by
 have hv:=ht.eval hx
 unfold ig at he
 have fin:∀(ad:Addr)(c:List IV)(off:Nat)(z:IV),a.eval x=.pointer (some ad)->At I W c off ad->(bB c off n).bind (ql agg)=some z->cG P I W a.eval o z:=fun ad c off z hq hA hr=>by let⟨y,hy,qN⟩:=CN hl hA hr;exact⟨y,by simp[execOp,ho,hq,jB,Instr.loadAt,Instr.sureAddr,lq,jJ,hy],qN⟩
 split at he
 .rename_i l i off q1
  rw[q1]at hv
  split at he
  .rename_i c hg
   cases hz:(bB c off n).bind (ql agg)with
   |none=>grind
   |some z =>
    rw[hz]at he;cases he
    let⟨ad,hq,hA⟩:=JC hR hv (YC hV hg rfl)
    grind
  grind
 .rename_i cs off q1
  rw[q1]at hv
  cases hz:(bB cs off n).bind (ql agg)with
  |none=>grind
  |some z =>
   rw[hz]at he;cases he
   let⟨ad,hq,hA⟩:=UO hv
   grind
 grind
theorem SR(ho:o.op=.store ty x y)(hn:cS P ty=some n)(hn0:n≠0)(hx:bG x=some x')(hy:bG y=some y')(ht:TR I W t a.tmps)(hR:RS I (look d ah aa) W)
  (he:fG d aa t n x' y'=some (e,v,aU)):fM P d ah I W a.eval o v aU:=by
 have hv:=ht.eval hx
 have hw:=zT (ht.eval hy)
 unfold fG at he
 split at he
 .rename_i l i off q1
  rw[q1]at hv
  split at he
  .rename_i c hg
   split at he
   .rename_i hc
    let⟨rfl,hlen,hfit,hsc⟩:=hc
    cases he
    rw[zi,zi]
    let⟨k,s,hb,hq⟩:=uG hv
    let⟨c',ty',hh,sD⟩:=hR.obj _ _ _ _ _ hb (show look l ah aa l i=some (.cells c) by rw[yi];omega)
    have hsz:(a.eval y).cells.size=n:=by have:=hw.1;grind
    have hroom:off+s+n<=c'.size:=by obtain⟨z,hz,_⟩:=sD (off+n-1) _ (dw Z);grind
    have hrun:=run_storeCells_at (P:=P) k (off+s) ty' (a.eval y).cells.toList 0 c' W hh (by grind) (y6 hw hsc)
    let⟨W',hW'⟩:∃ W',W'=W.setRow k (c'.toList.take (off+s+0)++(a.eval y).cells.toList++c'.toList.drop (off+s+0+(a.eval y).cells.toList.length)).toArray:=⟨_,rfl⟩
    have hO:Ext I W I W'->OR I W' k s (.cells (dS c off (ρ t y').cells)):=fun e=>by
     refine⟨_,ty',by rw[hW'];exact setRow_heap W k c' _ ty' _ hh,fun j z hz=>?_⟩;rw[ZP _ _ _ _ (by grind)]at hz;simp only[tY,zko];by_cases hj:off<=j/\j<off+(ρ t y').cells.length
     .rw[bU hj]at hz;let⟨r,hr,r6⟩:=hw.get hz;refine⟨r,?_,r6.ext e⟩;rw[mo,q8 (by grind),pN (by grind)];grind
     .rw[b9 hj]at hz;let⟨r,hr,r6⟩:=sD j z hz;refine⟨r,?_,r6.ext e⟩;rw[←hr,mo,←EA];grind
    obtain ⟨qU,hF⟩:=zef (W':=W') hR hg rfl hb (fun k2 hk2=>by rw [hW']; exact setRow_other W k k2 _ hk2) (by simp [*]) (fun c2 t2 f2 nM=>by
     rw[hh]at nM;cases nM;exact ⟨_,by rw [hW']; exact setRow_heap W k c' _ ty' _ hh,by grind⟩) (by simp [*]) (by simp [*]) (by simp [*]) hO rfl
    refine⟨.skip,I,W',?_,rfl,qU,hF⟩
    simp only[execOp,ho,hq,jB,Instr.storeAt,Instr.sureAddr,storeVar,lq,jJ,yh hn]
    simp_all
   grind
  grind
 grind
theorem XF(ho:o.op=.alloc el)(hz:iK P el=some z)(hR:RS I (look d ah aa) W)(he:Gh d n0 aa z.cells slot=some (e,v,aU)):fM P d ah I W a.eval o v aU:=by
 obtain⟨hf,rfl,rfl,rfl⟩:=yt he;obtain⟨i,zv,hi,EI,hv⟩:=yH hz;obtain⟨qU,hF⟩:=wN (ty:=el) hR hf (zT hv) ⟨W.drawn,rfl⟩;refine⟨.value (.pointer (some ⟨W.heap.size,0,none⟩)),_,_,?_,?_,qU,hF⟩
 .simp[execOp,ho,Instr.alloc,zeroValue,typeInfo,hi,EI,newVar,newRow]
 .exact .ptrM (zX _ _ _ _)
theorem ab1(ho:o.op=.box el x)(hx:bG x=some x')(ht:TR I W t a.tmps)(hR:RS I (look d ah aa) W)(he:kr d n0 aa t x' slot=some (e,v,aU)):fM P d ah I W a.eval o v aU:=by
 unfold kr at he;split at he
 .obtain⟨hf,rfl,rfl,rfl⟩:=yt he;obtain⟨qU,hF⟩:=wN (ty:=el) hR hf (zT (ht.eval hx)) ⟨W.drawn,rfl⟩;refine⟨.value (.pointer (some ⟨W.heap.size,0,none⟩)),_,_,?_,?_,qU,hF⟩
  .simp[execOp,ho,Instr.box,newVar,newRow]
  .exact .ptrM (zX _ _ _ _)
 grind
theorem NK{len:Nat}(ho:o.op=.buildSlice ty len parts)(hu:P.underlying ty=some (.slice el))(hz:iK P el=some z)(hn:cS P el=some n)
  (h24:len*n<=2 ^ 24) (hzl:z.cells.length=n) (hn0:0<n) (hp:k7 (fun i=>some (i*n,n)) parts.toList=some ps) (ht:TR I W t a.tmps) (hR:RS I (look d ah aa) W)
  (he:fZ d n0 aa t z.cells n len ps slot=some (e,v,aU)):fM P d ah I W a.eval o v aU:=by
 unfold fZ at he
 split at he
 rotate_left
 .grind
 rename_i c' EM
 split at he
 rotate_left
 .grind
 obtain⟨hf,rfl,rfl,rfl⟩:=yt he
 obtain⟨i,zv,hi,EI,hv⟩:=yH (I:=I) (W:=W) hz
 let⟨ie,hie,hs⟩:=yz hn
 obtain rfl:i=ie:=by grind
 have e0:dx I W (rep z.cells len) (if len*n=0 then(#[]:Array Value)else(Array.range (len*n)).map (zv.cells[·%zv.cells.size]!)).toList:=by
  exact xbm
 let⟨cs',e1,e2⟩:=YB _ ht hp e0 EM
 obtain⟨qU,hF⟩:=wN (ty:=el) hR hf e2 (W':=W.alloc (.cells cs' el)) ⟨W.drawn,rfl⟩
 refine⟨.value (.slice (some ⟨W.heap.size,0,none⟩) len len),_,_,?_,?_,qU,hF⟩
 .exact xad
 .have hlc:c'.length=cs'.size:=by have:=e2.1;omega
  have hlr:∀{c c'':List IV}{ps},dX t c ps=some c''->c''.length=c.length:=by
   intro c c'' ps;exact xak
  have iN:=hlr EM
  rw[yN,hzl]at iN
  exact .slM (s:=0) (zX _ _ _ _) (.inr M) (cI _) (cI _) (fun h=>by rfl) ⟨_,_,_,Z3 _ _,Z⟩
theorem SU(ho:o.op=.makeMap ty none)(hR:RS I (look d ah aa) W)(he:Am d n0 aa slot=some (e,v,aU)):fM P d ah I W a.eval o v aU:=by
 obtain⟨hf,rfl,rfl,rfl⟩:=yt he;obtain⟨qU,hF⟩:=zee (s:=0) (o:=.map [] [] [] 0) hR hf (fun l i s' o' hb _ _=>absurd (hR.here _ _ _ _ hb) (zmw _)) (.inl (cI _)) (fun k2 _ hk2=>Below.heap_alloc _ _ k2 hk2) M M (fun c t f hc=>absurd (RQ.1 hc).1 (zmw _)) rfl rfl rfl
  (fun e=>⟨#[],Z3 _ _,rfl,rfl,rfl,fun j en hj=>by simp⟩)
 refine⟨.value (.map (some W.heap.size)),_,_,?_,.mapM (zX _ _ _ _),qU,hF⟩;simp[execOp,ho,Instr.makeMap]
theorem aeh{isMax:Bool}{c:Go.Call}(ho:o.op=.call c)(nK:c.callee=.builtin (if isMax then .max else .min))(hargs:c.args.toList=[x,y])(hx:bG x=some x')(hy:bG y=some y')(ht:TR I W t a.tmps)
  (he:oy aa t isMax x' y'=some (e,v,aU)):e=.p/\aU=aa/\cG P I W a.eval o v:=by
 have hv:=ht.eval hx
 have hw:=ht.eval hy
 unfold oy at he
 split at he
 .rename_i k p k' q h1 h2
  cases he
  rw[h1]at hv;rw[h2]at hw
  have Pp:c.args=#[x,y]:=by grind
  refine⟨rfl,rfl,_,?_,.int _ _⟩
  cases isMax
  .simp[execOp,ho,resolve,nK,Pp,nv,if_false,W8,mQ,tX,Yz hv,Yz hw,jB,lq,jJ,invoke,builtin,run_min_int2]
  .simp[execOp,ho,resolve,nK,Pp,if_true,W8,mQ,tX,Yz hv,Yz hw,jB,lq,jJ,invoke,builtin,run_max_int2]
 grind
end
theorem Z4:∀{ks:List Nat}{xs ys:List IV}{r:Bool},eR ks xs ys=some r->xs.length=ks.length/\ys.length=ks.length
 |[],[],[],_,_=>⟨rfl,rfl⟩
 |k::ks,x::xs,y::ys,r,h=>by
  simp[eR]at h;split at h
  .have:=Z4 h;grind
  .split at h
   .rename_i z hz;have:=Z4 hz;grind
   grind
  grind
 |[],_::_,_,_,h=>xc4
 |[],[],_::_,_,h=>xc4
 |_::_,[],_,_,h=>xc4
 |_::_,_::_,[],_,h=>xc4
theorem ZQ:∀{k1 k2:List Nat}{xs ys:List IV}{r:Bool},eR (k1++k2) xs ys=some r ->
  ∃ r1 r2,eR k1 (xs.take k1.length) (ys.take k1.length)=some r1/\eR k2 (xs.drop k1.length) (ys.drop k1.length)=some r2/\r=(r1&&r2)
 |[],k2,xs,ys,r,h=>⟨true,r,rfl,h,M⟩
 |k::k1,k2,xs,ys,r,h=>by
  cases xs with
  |nil=>simp[eR]at h
  |cons x xs =>
   cases ys with
   |nil=>simp[eR]at h
   |cons y ys =>
    simp[gu,eR]at h
    simp only[fB,zma,List.drop_succ_cons]
    split at h
    .rename_i hx
     obtain⟨r1,r2,h1,h2,rfl⟩:=ZQ h
     exact⟨r1,r2,by simp[eR,hx,h1],h2,rfl⟩
    .rename_i hx
     split at h
     .rename_i z hz
      cases h
      obtain⟨r1,r2,h1,h2,_⟩:=ZQ hz
      exact⟨false,r2,by simp[eR,hx,h1],h2,rfl⟩
     grind
    grind
def jw(u:TypeDesc)(ws:List Value):Value:=if gO u then .agg ws.toArray else ws.headD undef
variable {D:Nat}{ks:List Nat}{r:Bool}
section
theorem Ur{x y:IV}{a b:Value}(hu:P.underlying ty=some u)(hx:VR I W x a)(hy:VR I W y b)(hk:(u=.bool/\k=0)∨(∃ q,u=.int q/\k=1)∨(u=.string/\k=2))(h:eqv k x y=some r)(E:Nat) :
  (Op.equalIn (E+1) ty a b).run P W=.ok r W:=by
 unfold eqv at h
 split at h
 .rename_i q m q' n
  split at h
  .rename_i hq
   obtain⟨rfl,rfl⟩:=hq
   cases h
   rw[Yz hx,Yz hy]
   rcases hk with⟨_,h⟩|⟨q2,rfl,_⟩|⟨_,h⟩
   .omega
   .exact run_equalIn_int W E ty q q2 m n hu
   omega
  grind
 .rename_i m n
  split at h
  .rename_i hq
   subst hq
   cases h
   rw[MN hx,MN hy]
   rcases hk with⟨_,h⟩|⟨q2,_,h⟩|⟨rfl,_⟩
   .omega
   .omega
   .exact run_equalIn_string W E ty m n hu
  grind
 .rename_i m n
  split at h
  .rename_i hq
   subst hq
   cases h
   rw[Z2 hx,Z2 hy]
   rcases hk with⟨rfl,_⟩|⟨q2,_,h⟩|⟨_,h⟩
   .exact run_equalIn_bool W E ty m n hu
   .omega
   omega
  grind
 grind
theorem yQ(h:fC P D ty=some ks):∃ D' u,D=D'+1/\P.underlying ty=some u/\cS P ty=some ks.length /\
  ((u=.bool/\ks=[0])∨(∃ q,u=.int q/\ks=[1])∨(u=.string/\ks=[2])∨(∃ fs,u=.struct fs/\P.stoodInHeld ty=false/\AD (fC P D') fs.toList 0=some ks) ∨
   (∃ len e l,u=.array len e/\fC P D' e=some l/\ks=om l len)):=by
 cases D with
 |zero=>simp[fC]at h
 |succ D =>
  simp[fC]at h
  split at h
  .grind
  .grind
  .grind
  .grind
  .rename_i len e hu
   split at h
   .rename_i l hl
    split at h
    .rename_i hs
     cases h
     have:∀ n,(om l n).length=n*l.length:=by
      intro n;exact xbp
     grind
    grind
   grind
  grind
theorem Zx(h:fC P D ty=some ks)(hu:P.underlying ty=some u)(ws:List Value)(off:Nat)(hl:off+ks.length<=ws.length) :
  (part ty ws.toArray off).run P W=.ok (jw u ((ws.drop off).take ks.length)) W:=by
 obtain⟨D',u',rfl,Wa,hs,hc⟩:=yQ h
 rw[hu]at Wa
 obtain rfl:=s6 Wa
 cases ha:gO u with
 |true =>
  simp only[part,jB,y7 hu,ha,jJ,if_true,yh hs,lq,jw]
  grind
 |false =>
  have hk1:ks.length=1:=by rcases hc with⟨_,rfl⟩|⟨_,_,rfl⟩|⟨_,rfl⟩|⟨_,rfl,_⟩|⟨_,_,_,rfl,_⟩<;>first|rfl|simp[gO]at ha
  simp only[part,jB,y7 hu,ha,jJ,nv,if_false,(show ws.toArray[off]?=some ws[off] by simp),lq,jw]
  rw[List.headD_eq_head?_getD,List.head?_take,List.head?_drop,b9 Z,dw Z]
  rfl
theorem Jd:∀(D:Nat)(ty:TypeId)(E:Nat)(ks:List Nat)(u:TypeDesc)(xs ys:List IV)(ws us:List Value)(r:Bool),fC P D ty=some ks->D<=E->P.underlying ty=some u->dx I W xs ws->dx I W ys us->eR ks xs ys=some r ->
  (Op.equalIn E ty (jw u ws) (jw u us)).run P W=.ok r W:=by
 intro D
 induction D with
 |zero=>intro ty E ks u xs ys ws us r h;simp[fC]at h
 |succ D ih =>
  intro ty E ks u xs ys ws us r h hE hu hx hy he
  obtain⟨E,rfl⟩:∃ E',E=E'+1:=⟨E-1,Z⟩
  let⟨D',u',hD,Wa,hs,hc⟩:=yQ h
  obtain rfl:D=D':=Z
  rw[hu]at Wa
  obtain rfl:=s6 Wa
  let⟨l1,l2⟩:=Z4 he
  have basic:∀ k,ks=[k]->gO u=false->((u=.bool/\k=0)∨(∃ q,u=.int q/\k=1)∨(u=.string/\k=2))->(Op.equalIn (E+1) ty (jw u ws) (jw u us)).run P W=.ok r W:=by
   intro k hk ha hkk;subst hk;obtain⟨x,rfl⟩:∃ x,xs=[x]:=zlk.1 l1;obtain⟨y,rfl⟩:∃ y,ys=[y]:=zlk.1 l2;obtain⟨a,rfl⟩:∃ a,ws=[a]:=zlk.1 hx.1.symm;obtain⟨b,rfl⟩:∃ b,us=[b]:=zlk.1 hy.1.symm;have h1:eqv k x y=some r:=by
    simp[eR]at he;exact xgl
   simp[jw,ha,nv,if_false,List.headD_cons];exact Ur hu (hx.2 0 x a rfl rfl) (hy.2 0 y b rfl rfl) hkk h1 E
  rcases hc with⟨rfl,rfl⟩|⟨q,rfl,rfl⟩|⟨rfl,rfl⟩|⟨fs,rfl,hst,ac9⟩|⟨len,e,l,rfl,hl,rfl⟩
  .exact basic 0 rfl rfl (.inl ⟨rfl,rfl⟩)
  .exact basic 1 rfl rfl (.inr (.inl ⟨q,rfl,rfl⟩))
  .exact basic 2 rfl rfl (.inr (.inr ⟨rfl,rfl⟩))
  .simp[jw,gO,if_true]
   have hf:P.fieldsOf ty=fs:=by simp[Program.fieldsOf,hu]
   rw[run_equalIn_struct W E ty ws.toArray us.toArray (by grind) hst,hf]
   have go:∀(fl:List Field)(off:Nat)(kl:List Nat)(r:Bool),AD (fC P D) fl off=some kl->off+kl.length=ws.length->us.length=ws.length->eR kl (xs.drop off) (ys.drop off)=some r->(Op.eqFields E ws.toArray us.toArray fl).run P W=.ok r W:=by
    intro fl;induction fl with
    |nil =>
     intro off kl r hk ho hlen hr
     simp only[AD,iw]at hk
     subst hk
     let⟨m1,m2⟩:=Z4 hr
     have:r=true:=by rw[(uc.1 m1),(uc.1 m2)]at hr;simpa[eR]using hr.symm
     subst this
     rfl
    |cons f fl ihf =>
     intro off kl r hk ho hlen hr
     simp only[AD]at hk
     split at hk
     .rename_i hnm
      split at hk
      .rename_i a1 ha1
       split at hk
       .rename_i b1 kK
        cases hk
        obtain⟨r1,r2,jE,hr2,rfl⟩:=ZQ hr
        rw[W4]at hr2
        rw[W4]at hr2
        simp[mV]at ho
        obtain⟨_,uf,_,huf,_,_⟩:=yQ ha1
        simp only[Op.eqFields,hnm.1,ne_eq,znk,if_true,hnm.2,jB,(Zx (W:=W) ha1 huf ws off Z),(Zx (W:=W) ha1 huf us off Z),jJ,(ih f.type E a1 uf _ _ _ _ r1 ha1 Z huf ((hx.drop off).take a1.length) ((hy.drop off).take a1.length) jE)]
        cases r1
        .simp
        grind
       grind
      grind
     grind
   exact go fs.toList 0 ks r ac9 (by rw[eB,←l1,hx.1]) (by rw[←hy.1,←hx.1,l1,l2]) (by grind)
  .simp[jw,gO,if_true]
   obtain⟨_,ue,_,hue,hse,_⟩:=yQ hl
   let⟨ie,hie,his⟩:=yz hse
   rw[run_equalIn_array W E ws.toArray us.toArray hu hie]
   rw[(show P.cellsOf e=l.length by simp[Program.cellsOf,hie,his])]
   have hrl:∀ n,(om l n).length=n*l.length:=by
    intro n;exact xbp
   have go:∀(m i:Nat)(r:Bool),(i+m)*l.length=ws.length->us.length=ws.length->eR (om l m) (xs.drop (i*l.length)) (ys.drop (i*l.length))=some r->(Op.eqItems E e l.length ws.toArray us.toArray (List.range' i m)).run P W=.ok r W:=by
    intro m;induction m with
    |zero =>
     intro i r ho hlen hr
     simp[om]at hr
     let⟨m1,m2⟩:=Z4 hr
     have:r=true:=by rw[uc.1 m1,uc.1 m2]at hr;simpa[eR]using hr.symm
     subst this
     rfl
    |succ m ihm =>
     intro i r ho hlen hr
     simp[om]at hr
     obtain⟨r1,r2,jE,hr2,rfl⟩:=ZQ hr
     rw[W4,W4]at hr2
     have hle:i*l.length+l.length<=ws.length:=by grind
     simp only[List.range'_succ,Op.eqItems,jB,(Zx (W:=W) hl hue ws (i*l.length) hle),(Zx (W:=W) hl hue us (i*l.length) Z),jJ,(ih e E l ue _ _ _ _ r1 hl Z hue ((hx.drop (i*l.length)).take l.length) ((hy.drop (i*l.length)).take l.length) jE)]
     cases r1
     .simp
     .simp[ME,nv,if_false,rF]
      exact ihm (i+1) r2 (by grind) hlen (by grind)
   have:=go len 0 r (by rw[eB,←hrl,←l1,hx.1]) (by rw[←hy.1,←hx.1,l1,l2]) (by grind)
   rw[zmx]
   omega
end
variable {kt:Bool×List Nat}
section
variable {o:Oper} {aa:aS} {e:dI} 
theorem zb2(h:gO u=true)(ws:Array Value):jw u ws.toList=.agg ws:=by simp[jw,h]
theorem HM(ho:o.op=.binOp op ty x y ty')(hop:op=if neg then .neq else .eql)(hu:P.underlying ty=some u)(hag:gO u=true)(hg:P.eqGuardType P.depth ty=false)
  (hk:fC P 40 ty=some ks) (ht:TR I W t a.tmps) (hx:bG x=some x') (hy:bG y=some y') (he:fI aa t neg ks x' y'=some (e,v,aU)):e=.p/\aU=aa/\cG P I W a.eval o v:=by
 have hv:=ht.eval hx
 have hw:=ht.eval hy
 unfold fI at he
 split at he
 .rename_i xs ys h1 h2
  obtain⟨z,hz,rfl,rfl,rfl⟩:=MM he
  rw[h1]at hv;rw[h2]at hw
  let⟨ws,V9,q1⟩:=Eh hv
  let⟨us,hus,q2⟩:=Eh hw
  have hq:=Jd 40 ty 10000 ks u xs ys ws.toList us.toList z hk Z hu V9 hus hz
  rw[zb2 hag,zb2 hag]at hq
  refine⟨rfl,rfl,.bool (neg != z),?_,.bool _⟩
  cases neg
  .subst hop
   simp[execOp,ho,q1,q2,jB,run_eqGuard_agg W _ _ _ _ _ _ hg,jJ,nv,if_false,run_eql_struct,hq,lq,j4]
  .subst hop
   simp[execOp,ho,q1,q2,jB,run_eqGuard_agg W _ _ _ _ _ _ hg,jJ,if_true,run_neq_struct,hq,lq,Bool.true_bne]
 grind
theorem J8{x:Value}(hk:fC P D ty=some ks)(hu:P.underlying ty=some u)(hv:VR I W v x)(hl:v.cells.length=ks.length)(hag:gO u=true->∃ cs,v=.agg cs)(hna:gO u=false->v.scalar=true):jw u x.cells.toList=x:=by
 cases ha:gO u with
 |true =>
  obtain⟨cs,rfl⟩:=hag ha
  obtain⟨ws,_,rfl⟩:=Eh hv
  exact zb2 ha ws
 |false =>
  have hs:=Y0 hv (hna ha)
  cases x<;>first|(simp[Value.oneCell']at hs;done)|(simp[jw,ha,Value.cells])
theorem F9(em:Bool):∀(D:Nat)(ty:TypeId)(E:Nat)(ks:List Nat)(u:TypeDesc)(ws:List Value),fC P D ty=some ks->D<=E->P.underlying ty=some u->ws.length=ks.length->(Instr.checkKey em E ty (jw u ws)).run P W=.ok () W:=by
 intro D;induction D with
 |zero=>intro ty E ks u ws h;simp[fC]at h
 |succ D ih =>
  intro ty E ks u ws h hE hu hl
  obtain⟨E,rfl⟩:∃ E',E=E'+1:=⟨E-1,Z⟩
  let⟨D',u',hD,Wa,hs,hc⟩:=yQ h
  obtain rfl:D=D':=Z
  rw[hu]at Wa
  obtain rfl:=s6 Wa
  rcases hc with⟨rfl,rfl⟩|⟨q,rfl,rfl⟩|⟨rfl,rfl⟩|⟨fs,rfl,hst,ac9⟩|⟨len,e,l,rfl,hl',rfl⟩
  .exact xfb
  .exact xfb
  .exact xfb
  .simp only[jw,gO,if_true,Instr.checkKey,jB,run_underlying hu,jJ]
   have go:∀(fl:List Field)(off:Nat)(kl:List Nat),AD (fC P D) fl off=some kl->off+kl.length=ws.length ->
     (forIn fl PUnit.unit fun f _=>(do
      if f.name ≠ "_" then do
       let z←part f.type ws.toArray f.offset
       Instr.checkKey em E f.type z
       pure PUnit.unit
      else pure PUnit.unit
      pure (ForInStep.yield PUnit.unit):Sem (ForInStep PUnit))).run P W=.ok PUnit.unit W:=by
    intro fl
    induction fl with
    |nil=>simp
    |cons f fl ihf =>
     intro off kl hk ho
     simp only[AD]at hk
     split at hk
     .rename_i hnm
      split at hk
      .rename_i a1 ha1
       split at hk
       .rename_i b1 kK
        cases hk
        simp[mV]at ho
        obtain⟨_,uf,_,huf,_,_⟩:=yQ ha1
        have p1:=Zx (W:=W) ha1 huf ws off Z
        have q1:=ih f.type E a1 uf ((ws.drop off).take a1.length) ha1 Z huf (by simp;omega)
        have r1:=ihf (off+a1.length) b1 kK Z
        simp_all
       grind
      grind
     grind
   have:=go fs.toList 0 ks ac9 Z
   simp_all
  .simp only[jw,gO,if_true,Instr.checkKey,jB,run_underlying hu,jJ]
   obtain⟨_,ue,_,hue,hse,_⟩:=yQ hl'
   simp only[Std.Legacy.Range.forIn_eq_forIn_range',Std.Legacy.Range.size,zm8,Nat.add_one_sub_one,Nat.div_one]
   have hrl:∀ n,(om l n).length=n*l.length:=by
    intro n;exact xbp
   have go:∀(m i:Nat),(i+m)*l.length=ws.length ->
     (forIn (List.range' i m) PUnit.unit fun j _=>(do
      let s←sizeOf e
      let z←part e ws.toArray (j*s)
      Instr.checkKey em E e z
      pure (ForInStep.yield PUnit.unit):Sem (ForInStep PUnit))).run P W=.ok PUnit.unit W:=by
    intro m
    induction m with
    |zero=>simp
    |succ m ihm =>
     intro i ho
     have hle:i*l.length+l.length<=ws.length:=by grind
     have r1:=ihm (i+1) (by grind)
     simp only[List.range'_succ,List.forIn_cons,jB,yh hse,(Zx (W:=W) hl' hue ws (i*l.length) hle),jJ,(ih e E l ue ((ws.drop (i*l.length)).take l.length) hl' Z hue (by grind)),lq]
     omega
   simp_all
theorem xL{x:Value}(hk:fC P D ty=some ks)(hu:P.underlying ty=some u)(hv:VR I W v x)(hl:v.cells.length=ks.length)(ho:jV (gO u) v=true):jw u x.cells.toList=x :=
 J8 hk hu hv hl (fun h=>by
  unfold jV at ho; grind) (fun h=>by unfold jV at ho; grind)
theorem adk{w:IV}(h:MT kt v w=some r):jV kt.1 v=true/\jV kt.1 w=true/\eR kt.2 v.cells w.cells=some r:=by unfold MT at h;grind
theorem key_eq{w:IV}{x y:Value}(hk:fC P 40 ty=some ks)(hu:P.underlying ty=some u)(hv:VR I W v x)(hw:VR I W w y)(he:MT (gO u,ks) v w=some r):(Op.equal ty x y).run P W=.ok r W:=by let⟨h1,h2,he⟩:=adk he;let⟨l1,l2⟩:=Z4 he;have:=Jd 40 ty 10000 ks u v.cells w.cells x.cells.toList y.cells.toList r hk Z hu (zT hv) (zT hw) he;rw[xL hk hu hv l1 h1,xL hk hu hw l2 h2]at this;exact this
theorem Qa{x y:IV}{a b:Value}(h:eqv k x y=some true)(hx:VR I W x a)(hy:VR I W y b):a=b/\∀ n,Instr.sameBits n a b=true:=by
 unfold eqv at h;split at h
 .split at h
  .rename_i hq;let⟨rfl,rfl⟩:=hq;simp[iw,Ev]at h;subst h;rw[Yz hx,Yz hy];exact xgj
  grind
 .rename_i m n;split at h
  .simp only[iw]at h;have hmn:m=n:=by have:=eq_of_beq h;rw[zm4,zm4]at this;cases m;simp_all
   subst hmn;rw[MN hx,MN hy];exact⟨rfl,fun n=>by cases n<;>(simp[Instr.sameBits];rw[beq_toListBytes];simp)⟩
  grind
 .split at h
  .simp[iw,Ev]at h;subst h;rw[Z2 hx,Z2 hy];exact xgj
  grind
 grind
theorem vm:∀{ks:List Nat}{xs ys:List IV}{az bs:List Value},eR ks xs ys=some true->dx I W xs az->dx I W ys bs->az=bs/\∀ n,(az.zip bs).all (fun p=>Instr.sameBits n p.1 p.2)=true
 |[],[],[],az,bs,_,hx,hy=>by rw[uc.1 hx.1.symm,uc.1 hy.1.symm];simp
 |k::ks,x::xs,y::ys,az,bs,h,hx,hy=>by
  cases az with
  |nil=>exact absurd hx.1 M
  |cons a az =>
   cases bs with
   |nil=>exact absurd hy.1 M
   |cons b bs =>
    simp[eR]at h
    split at h
    .rename_i h1
     let⟨e1,e2⟩:=Qa h1 (hx.2 0 x a rfl rfl) (hy.2 0 y b rfl rfl)
     obtain⟨e3,e4⟩:=vm h ⟨by have:=hx.1;simpa using this,fun j p q hp hq=>hx.2 (j+1) p q (by grind) (by grind)⟩ ⟨by have:=hy.1;simpa using this,fun j p q hp hq=>hy.2 (j+1) p q (by grind) (by grind)⟩
     simp_all
    .grind
    grind
 |[],_::_,_,_,_,h,_,_=>xc4
 |[],[],_::_,_,_,h,_,_=>xc4
 |_::_,[],_,_,_,h,_,_=>xc4
 |_::_,_::_,[],_,_,h,_,_=>xc4
theorem Qd{w:IV}{x y:Value}(h:MT kt v w=some true)(hv:VR I W v x)(hw:VR I W w y):x=y/\Instr.sameBits 10000 x y=true:=by
 let⟨h1,h2,he⟩:=adk h;let⟨e1,e2⟩:=vm he (zT hv) (zT hw);have e4:=e2 10000;have same:=Array.ext' e1;unfold jV at h1 h2;cases hk:kt.1 with
 |true =>
  rw[hk,bU rfl]at h1 h2
  cases v<;>simp at h1
  cases w<;>simp at h2
  obtain⟨ws,_,rfl⟩:=Eh hv
  obtain⟨us,_,rfl⟩:=Eh hw
  simp[Value.cells]at same
  subst same
  refine⟨rfl,?_⟩
  simp only[Instr.sameBits,beq_self_eq_true,rF]
  exact(e2 9999)
 |false =>
  rw[hk,b9 M]at h1 h2
  have s1:=Y0 hv h1
  have s2:=Y0 hw h2
  have c1:x.cells=#[x]:=by cases x<;>first|rfl|(simp[Value.oneCell']at s1)
  have c2:y.cells=#[y]:=by cases y<;>first|rfl|(simp[Value.oneCell']at s2)
  simp_all
end
variable {es:List MapEntry}{ok:Bool}{r5:List Nat}{vs:List IV}
section
variable {o:Oper} {aa:aS} {e:dI} 
def found(es:List MapEntry)(i:Nat):Option Nat->Option (Nat×Value)
 |none=>none
 |some j=>(es[j-i]?).map fun en=>(j,en.val)
theorem Z5{kt:Bool×List Nat}{key:IV}:∀{ks:List IV}{i j:Nat},eY kt key ks i=some (some j)->i<=j/\j<i+ks.length
 |[],i,j,h=>by simp[eY]at h
 |k::ks,i,j,h=>by
  simp[eY]at h;split at h
  .grind
  .have:=Z5 h;grind
  grind
theorem zel{en:MapEntry}{r:Option Nat}(h:∀ j,r=some j->i+1<=j):found es (i+1) r=found (en::es) i r:=by
 cases r with
 |none=>rfl
 |some j =>
  have:=h j rfl
  simp[found]
  grind
theorem zem{ty:TypeId}{u:TypeDesc}{r5:List Nat}{key:IV}{x:Value}(hk:fC P 40 ty=some r5)(hu:P.underlying ty=some u)(hx:VR I W key x):∀{ks:List IV}{es:List MapEntry}{i:Nat}{r:Option Nat},
  dx I W ks (es.map (·.key))->eY (gO u,r5) key ks i=some r->(Instr.findAsking ty x es i).run P W=.ok (found es i r) W
 |[],es,i,r,hl,h=>by
  have:es=[]:=by have:=hl.1;grind
  subst this;simp[eY,iw]at h;subst h;rfl
 |k::ks,es,i,r,hl,h=>by
  cases es with
  |nil=>exact absurd hl.1 M
  |cons en es =>
   have h0:=hl.2 0 k en.key rfl rfl
   have hs:dx I W ks (es.map (·.key)):=xd3
   simp[eY]at h
   split at h
   .rename_i hq
    cases h
    simp[Instr.findAsking,key_eq hk hu hx h0 hq,found]
   .rename_i hq
    simp only[Instr.findAsking,jB,key_eq hk hu hx h0 hq,jJ,nv,if_false,(zem hk hu hx hs h)]
    rw[zel (fun j hj=>by subst hj;exact(Z5 h).1)]
   grind
theorem zen{key k:IV}{x y:Value}(hx:VR I W key x)(hy:VR I W k y)(h:MT kt key k=some r)(hn:Instr.sameNow u x y=some b):b=r:=by
 obtain⟨_,_,he⟩:=adk h;have one:∀{v w:IV},v.cells=[v]->w.cells=[w]->∀{ks},eR ks v.cells w.cells=some r->∃ q,eqv q v w=some r:=fun hv hw ks he=>by
  rw[hv,hw]at he;cases ks with
  |nil=>simp[eR]at he
  |cons q ks =>
   cases ks with
   |cons _ _=>simp[eR]at he;grind
   |nil =>
    refine⟨q,?_⟩
    simp[eR]at he
    exact xgl
 unfold Instr.sameNow at hn;split at hn
 .rename_i q m q' n;have e1:key=.int q m:=by cases hx;rfl
  have e2:k=.int q' n:=by cases hy;rfl
  subst e1;subst e2;let⟨z,hz⟩:=one rfl rfl he;split at hn
  .simp only[eqv]at hz;grind
  grind
 .rename_i m n;have e1:key=.str m:=by cases hx;rfl
  have e2:k=.str n:=by cases hy;rfl
  subst e1;subst e2;let⟨z,hz⟩:=one rfl rfl he;cases hn;simp only[eqv]at hz;split at hz
  .rw[beq_toListBytes];grind
  grind
 .rename_i m n;have e1:key=.bool m:=by cases hx;rfl
  have e2:k=.bool n:=by cases hy;rfl
  subst e1;subst e2;let⟨z,hz⟩:=one rfl rfl he;simp only[eqv]at hz;grind
 grind
theorem Iu{u:TypeDesc}{kt:Bool×List Nat}{key:IV}{x:Value}(hx:VR I W key x):∀{ks:List IV}{es:List MapEntry}{i:Nat}{r:Option Nat}{q:Option (Nat×Value)},
  dx I W ks (es.map (·.key))->eY kt key ks i=some r->Instr.findNow u x es i=some q->q=found es i r
 |[],es,i,r,q,hl,h,hq=>by
  have:es=[]:=by have:=hl.1;grind
  subst this;simp[eY,iw]at h;subst h;simp[Instr.findNow,iw]at hq;exact hq.symm
 |k::ks,es,i,r,q,hl,h,hq=>by
  cases es with
  |nil=>exact absurd hl.1 M
  |cons en es =>
   have h0:=hl.2 0 k en.key rfl rfl
   have hs:dx I W ks (es.map (·.key)):=xd3
   simp[eY]at h
   simp[Instr.findNow]at hq
   split at hq
   .rename_i hn
    cases hq
    split at h
    .cases h;simp[found]
    .rename_i he;exact absurd (zen hx h0 he hn) M
    grind
   .rename_i hn
    split at h
    .rename_i he;exact absurd (zen hx h0 he hn) M
    .rw[Iu hx hs h hq,zel (fun j hj=>by subst hj;exact(Z5 h).1)]
    grind
   grind
theorem za5{key:IV}{x:Value}(hk:fC P 40 ty=some r5)(hu:P.underlying ty=some u)(hx:VR I W key x){ks:List IV}{r:Option Nat}(hl:dx I W ks (es.map (·.key)))(h:eY (gO u,r5) key ks 0=some r) :
  (Instr.findKey ty x es).run P W=.ok (found es 0 r) W:=by
 simp[Instr.findKey,jB,run_underlying hu,jJ]
 cases hn:Instr.findNow u x es 0 with
 |none=>exact zem hk hu hx hl h
 |some q=>simp only[lq];rw[Iu hx hl h hn]
theorem vH{key:IV}{x:Value}(em:Bool)(hk:fC P 40 ty=some r5)(hu:P.underlying ty=some u)(hx:VR I W key x)(hc:(jV (gO u) key&&key.cells.length==r5.length)=true):(Instr.checkKey em 10000 ty x).run P W=.ok () W:=by simp[kE,Ev]at hc;have hl:=(zT hx).1;have:=F9 (W:=W) em 40 ty 10000 r5 u x.cells.toList hk Z hu (by grind);rwa [xL hk hu hx hc.2 hc.1]at this
theorem FK{kt:TypeId}{key:IV}{x m:Value}{ks:List IV}{es:Array MapEntry}{w:Option IV}(hm:P.underlying ty=some (.map kt el))(hk:fC P 40 kt=some r5)(hu:P.underlying kt=some u)(hz:iK P el=some z)
  (gU:m=.map none/\es=#[]∨∃ k clock,m=.map (some k)/\W.heap[k]?=some (.map es clock)) (hx:VR I W key x) (hks:dx I W ks (es.toList.map (·.key))) (hvs:dx I W vs (es.toList.map (·.val))) (h:lC (gO u,r5) key ks vs=some w) :
  ∃ y,(Instr.lookup ty m x ok).run P W=.ok y W/\VR I W (if ok then .tuple [w.getD z,.bool w.isSome]else w.getD z) y:=by
 obtain⟨i,zv,hi,EI,V6⟩:=yH (I:=I) (W:=W) hz
 unfold lC at h
 split at h
 .rename_i hc
  have Pk:=vH (P:=P) es.isEmpty hk hu hx hc
  have hzz:(zeroValue el).run P W=.ok zv W:=by simp[zeroValue,typeInfo,hi,EI]
  have fin:∀(qV:Option (Nat×Value))(w:Option IV),(Instr.findKey kt x es.toList).run P W=.ok qV W->(w.isSome=qV.isSome)->(∀ p q,w=some p->qV=some q->VR I W p q.2) ->
    ∃ y,(Instr.lookup ty m x ok).run P W=.ok y W/\VR I W (if ok then .tuple [w.getD z,.bool w.isSome]else w.getD z) y:=by
   intro qV w hf hs hv
   have agc:(Instr.lookup ty m x ok).run P W=.ok (match qV with|some (_,y)=>if ok then .tuple #[y,.bool true]else y|none=>if ok then .tuple #[zv,.bool false]else zv) W:=by
    unfold Instr.lookup;rcases gU with⟨rfl,rfl⟩|⟨k,clock,rfl,hh⟩
    .simp only[jB,run_underlying hm,jJ,lq,Pk,hf];exact xfv
    .simp only[jB,run_underlying hm,jJ,lq,(show(getObj k).run P W=.ok (.map es clock) W by simp[getObj,Sem.run,hh]),Pk,hf];exact xfv
   rw[agc]
   cases qV with
   |none =>
    cases w with
    |some _=>grind
    |none =>
     refine⟨_,rfl,?_⟩
     cases ok
     .grind
     .exact .tuple rfl (fun j p q hp hq=>by
       rcases j with _|_|j
       .grind
       .simp at hp hq;rw[←hp,←hq];exact .bool _
       grind)
   |some q =>
    cases w with
    |none=>grind
    |some p =>
     have hpq:=hv p q rfl rfl
     refine⟨_,rfl,?_⟩
     cases ok
     .grind
     .exact .tuple rfl (fun j p' q' hp hq=>by
       rcases j with _|_|j
       .grind
       .simp at hp hq;rw[←hp,←hq];exact .bool _
       grind)
  split at h
  .rename_i j hj
   cases hvj:vs[j]? with
   |none=>grind
   |some p =>
    rw[hvj]at h;cases h
    let⟨q,hq,hpq⟩:=hvs.get hvj
    rw[qn]at hq
    cases Wq:es.toList[j]? with
    |none=>grind
    |some en =>
     rw[Wq]at hq;cases hq
     exact fin _ (some p) (za5 hk hu hx hks hj) (by simp[found,Wq]) (fun p' q' hp hq=>by simp[found,Wq]at hq;grind)
  .rename_i hj
   cases h
   exact fin _ none (za5 hk hu hx hks hj) rfl (fun p q hp=>by grind)
  grind
 grind
end
variable {clock:Nat}
section
variable {o:Oper} {aa:aS} {e:dI} 
theorem FC{ks:List IV}{bs:List Nat}(h:OR I W k s (.map ks vs bs clock)):∃ es:Array MapEntry,W.heap[k]?=some (.map es clock)/\dx I W ks (es.toList.map (·.key))/\dx I W vs (es.toList.map (·.val))/\bs=es.toList.map (·.born):=by
 let⟨es,h1,h2,h3,h4,h5⟩:=h;refine⟨es,h1,⟨by grind,fun j x y hx hy=>?_⟩,⟨by grind,fun j x y hx hy=>?_⟩,?_⟩
 .grind
 .grind
 .apply Hj;grind
theorem map_or{ks:List IV}{es:Array MapEntry}(h1:W.heap[k]?=some (.map es clock))(hk:dx I W ks (es.toList.map (·.key)))(hv:dx I W vs (es.toList.map (·.val))):OR I W k s (.map ks vs (es.toList.map (·.born)) clock):=by
 refine⟨es,h1,by have:=hk.1;grind,by have:=hv.1;grind,M,fun j en he=>⟨fun x hx=>hk.2 j x _ hx ?_,fun x hx=>hv.2 j x _ hx ?_,fun x hx=>?_⟩⟩
 .grind
 .grind
 grind
theorem VW{ks:List IV}{x:Value}(h:VR I W (.cR ks vs) x):∃(k:Nat)(es:Array MapEntry)(clock:Nat),x=.map (some k)/\W.heap[k]?=some (.map es clock)/\dx I W ks (es.toList.map (·.key))/\dx I W vs (es.toList.map (·.val)):=by
 cases h with
 |cR en hk hm hn hn' he hkv RY =>
  refine⟨_,_,_,rfl,hm,⟨by grind,fun j x y hx hy=>?_⟩,⟨by grind,fun j x y hx hy=>?_⟩⟩
  .grind
  grind
theorem NM{kt:TypeId}(ho:o.op=.lookup ty x y ok)(hm:P.underlying ty=some (.map kt el))(hk:fC P 40 kt=some r5)(hu:P.underlying kt=some u)(hz:iK P el=some z)
  (hx:bG x=some x') (hy:bG y=some y') (ht:TR I W t a.tmps) (hR:RS I (look d ah aa) W) (hV:He aJ aa) (he:e7 d ah aJ aa t z (gO u,r5) ok x' y'=some (e,v,aU)):aU=aa/\cG P I W a.eval o v:=by
 have hv:=ht.eval hx
 unfold e7 at he
 have fin:∀(m:Value)(ks vs:List IV)(es:Array MapEntry)(w:Option IV),a.eval x=m->(m=.map none/\es=#[]∨∃ k clock,m=.map (some k)/\W.heap[k]?=some (.map es clock))->dx I W ks (es.toList.map (·.key))->dx I W vs (es.toList.map (·.val)) ->
   lC (gO u,r5) (ρ t y') ks vs=some w->cG P I W a.eval o (if ok then .tuple [w.getD z,.bool w.isSome]else w.getD z):=fun m ks vs es w hq gU h1 h2 hf=>by
  obtain⟨r,hr,r6⟩:=FK hm hk hu hz gU (ht.eval hy) h1 h2 hf
  exact⟨r,by simp[execOp,ho,hq,jB,hr,jJ,lq],r6⟩
 split at he
 .rename_i q1
  rw[q1]at hv
  cases hf:lC (gO u,r5) (ρ t y') [] []with
  |none=>grind
  |some w =>
   rw[hf]at he
   cases he
   exact⟨rfl,fin _ [] [] #[] w (xy hv) (.inl ⟨rfl,rfl⟩) .nil .nil hf⟩
 .rename_i ks vs q1
  rw[q1]at hv
  let⟨k,es,clock,RW,hh,h1,h2⟩:=VW hv
  exact xd4
 .rename_i l i q1
  rw[q1]at hv
  let⟨k,s,hb,RW⟩:=IE hv
  split at he
  .rename_i ks vs bs clock hg
   obtain⟨es,hh,h1,h2,_⟩:=FC (hR.obj _ _ _ _ _ hb (YC hV hg rfl))
   exact xd4
  grind
 grind
theorem NL{kt:TypeId}{m:Operand}{m':bD}(ho:o.op=.mapUpdate ty m x y)(hm:P.underlying ty=some (.map kt el))(hk:fC P 40 kt=some r5)(hu:P.underlying kt=some u)
  (Wg:bG m=some m') (hx:bG x=some x') (hy:bG y=some y') (ht:TR I W t a.tmps) (hR:RS I (look d ah aa) W) (he:fL d aa t (gO u,r5) m' x' y'=some (e,v,aU)):fM P d ah I W a.eval o v aU:=by
 have hv:=ht.eval Wg
 have hw:=ht.eval hx
 have hz:=ht.eval hy
 unfold fL at he
 split at he
 .rename_i l i q1
  rw[q1]at hv
  let⟨k,s,hb,RW⟩:=IE hv
  split at he
  .rename_i ks vs bs clock hg
   split at he
   .rename_i hc
    let⟨rfl,hc⟩:=hc
    obtain⟨es,hh,h1,h2,rfl⟩:=FC (hR.obj _ _ _ _ _ hb xfu)
    have Pk:=vH (P:=P) false hk hu hw hc
    have gU:(getObj k).run P W=.ok (.map es clock) W:=by simp[getObj,Sem.run,hh]
    have pq:∀ O:Obj,(setObj k O).run P W=.ok () { W with heap:=W.heap.setIfInBounds k O }:=fun O=>by simp[setObj,Sem.run,hh]
    have lz:k<W.heap.size:=hR.here _ _ _ _ hb
    have step:∀(es':Array MapEntry)(clock':Nat)(ks' vs':List IV),(execOp a.eval o).run P W=.ok .skip { W with heap:=W.heap.setIfInBounds k (.map es' clock') }->dx I W ks' (es'.toList.map (·.key))->dx I W vs' (es'.toList.map (·.val)) ->
      fM P l ah I W a.eval o (.tuple []) (aa.set i (.map ks' vs' (es'.toList.map (·.born)) clock')):=fun es' clock' ks' vs' hrun g1 g2=>by
     have hO:Ext I W I { W with heap:=W.heap.setIfInBounds k (.map es' clock') }->OR I { W with heap:=W.heap.setIfInBounds k (.map es' clock') } k s (.map ks' vs' (es'.toList.map (·.born)) clock') :=
      fun ex=>map_or (by grind) (g1.ext ex) (g2.ext ex)
     obtain⟨qU,hF⟩:=zef (W':={ W with heap:=W.heap.setIfInBounds k (.map es' clock') }) hR hg rfl hb (fun k2 hk2=>by grind) M (fun c2 t2 f2 nM=>by grind) rfl rfl rfl hO rfl
     exact⟨.skip,I,_,hrun,rfl,qU,hF⟩
    split at he
    .rename_i j hj
     cases he
     rw[zi,zi]
     obtain⟨_,hjl⟩:=Z5 hj
     have hjs:j<es.size:=by have:=h1.1;grind
     have Wq:es[j]?=some es[j]:=by simp
     have same:a.eval x=es[j].key/\Instr.sameBits 10000 es[j].key (a.eval x)=true:=by
      have:∀{ks:List IV}{es:List MapEntry}{i j:Nat}{en:MapEntry},dx I W ks (es.map (·.key))->eY (gO u,r5) (ρ t x') ks i=some (some j)->es[j-i]?=some en->a.eval x=en.key/\Instr.sameBits 10000 (a.eval x) en.key=true:=by
       intro ks;induction ks with
       |nil=>intro es i j en _ h;simp[eY]at h
       |cons k0 ks ih =>
        intro es i j en hl h hen
        cases es with
        |nil=>grind
        |cons e0 es =>
         simp[eY]at h
         split at h
         .rename_i hq
          cases h
          rw[Ew]at hen
          cases hen
          exact Qd hq hw (hl.2 0 k0 _ rfl rfl)
         .have hge:=(Z5 h).1
          refine ih ⟨by have:=hl.1;simpa using this,fun j p q hp hq=>hl.2 (j+1) p q (by grind) (by grind)⟩ h ?_
          grind
         grind
      grind
     have hb':es.toList.map (·.born)=(es.modify j fun e=>{ e with key:=a.eval x,val:=a.eval y }).toList.map (·.born):=by apply Hj;grind
     rw[hb']
     refine step _ clock ks (vs.set j (ρ t y')) ?_ ?_ ?_
     .simp[execOp,ho,RW,jB,Instr.mapUpdate,run_underlying hm,jJ,gU,Pk,(za5 (P:=P) hk hu hw h1 hj),found,zm8,EA,Wq,iJ,MF,Instr.keyThatStays,same.2,if_true,lq,pq]
     .refine⟨by have:=h1.1;grind,fun q p r hp hr=>?_⟩
      simp only[qn,EA,zmp]at hr
      split at hr
      .rename_i hqj
       subst hqj
       rw[Wq]at hr
       cases hr
       show VR I W p (a.eval x)
       rw[same.1]
       exact h1.2 j p _ hp (by grind)
      .exact h1.2 q p r hp (by grind)
     .refine⟨by have:=h2.1;grind,fun q p r hp hr=>?_⟩
      simp only[qn,EA,zmp]at hr
      rw[zk8]at hp
      split at hr
      .grind
      .rename_i hqj
       rw[b9 hqj]at hp
       exact h2.2 q p r hp (by grind)
    .rename_i hj
     cases he
     simp[zi]
     have hb':es.toList.map (·.born)++[clock]=(es.push { key:=a.eval x,val:=a.eval y,born:=clock }).toList.map (·.born):=by simp
     rw[hb']
     refine step _ (clock+1) (ks++[ρ t x']) (vs++[ρ t y']) ?_ ?_ ?_
     .simp[execOp,ho,RW,jB,Instr.mapUpdate,run_underlying hm,jJ,gU,Pk,(za5 (P:=P) hk hu hw h1 hj),found,lq,pq]
     .rw[Array.toList_push,Hi]
      exact h1.append (.cons hw .nil)
     .rw[Array.toList_push,Hi]
      exact h2.append (.cons hz .nil)
    grind
   grind
  grind
 grind
end
section
variable {o:Oper} {aa:aS} {e:dI} 
theorem xq{c:Go.Call}(h:c.args.toList=[x]):c.args=#[x]:=by grind
theorem Bt{c:Go.Call}(h:c.args.toList=[x,y]):c.args=#[x,y]:=by grind
theorem NN{c:Go.Call}(ho:o.op=.call c)(nK:c.callee=.builtin .len)(hargs:c.args.toList=[x])(hty:c.argTypes[0]?=some ty)(hu:P.underlying ty=some u)
  (hk:(u=.string/\k=0)∨(∃ el,u=.slice el/\k=1)∨(∃ kt el,u=.map kt el/\k=2)) (hx:bG x=some x') (ht:TR I W t a.tmps) (hR:RS I (look d ah aa) W) (hV:He aJ aa) (he:e_len d ah aJ aa t k x'=some (e,v,aU)) :
  aU=aa/\cG P I W a.eval o v:=by
 have hv:=ht.eval hx
 have fin:∀(y:Value)(n:Nat),a.eval x=y->(∀ ty',(Builtin.len_ c.argTypes ty' #[y]).run P W=.ok (goInt n) W)->cG P I W a.eval o (.int .i64 n):=fun y n hq hr =>
  ⟨.int .i64 n,by simp only[execOp,ho,resolve,nK,(xq hargs),W8,mQ,tX,hq,jB,lq,jJ,invoke,builtin,hr];rfl,.int _ _⟩
 unfold e_len at he
 split at he
 .rename_i q1
  rw[q1]at hv
  split at he
  .cases he
   obtain⟨el,rfl⟩:∃ el,u=.slice el:=by grind
   exact⟨rfl,fin _ 0 (yP hv) fun ty'=>by simp[Builtin.len_,hty,run_underlying hu]⟩
  grind
 .rename_i l i off n cp sz tg q1
  rw[q1]at hv
  split at he
  .cases he
   obtain⟨el,rfl⟩:∃ el,u=.slice el:=by grind
   obtain⟨_,_,_,_,_,_,_,_,_,hq⟩:=Fa hv
   exact xed
  grind
 .rename_i cs n sz tg q1
  rw[q1]at hv
  split at he
  .cases he
   obtain⟨el,rfl⟩:∃ el,u=.slice el:=by grind
   obtain⟨_,_,_,_,_,_,_,_,_,_,hq⟩:=wk hv
   exact xed
  grind
 .rename_i s q1
  rw[q1]at hv
  split at he
  .rename_i hk1
   cases he
   obtain rfl:u=.string:=by grind
   exact⟨rfl,fin _ s.size (MN hv) fun ty'=>by simp[Builtin.len_,hty,run_underlying hu]⟩
  grind
 .rename_i q1
  rw[q1]at hv
  split at he
  .rename_i hk1
   cases he
   obtain⟨kt,el,rfl⟩:∃ kt el,u=.map kt el:=by grind
   exact⟨rfl,fin _ 0 (xy hv) fun ty'=>by simp[Builtin.len_,hty,run_underlying hu]⟩
  grind
 .rename_i ks vs q1
  rw[q1]at hv
  split at he
  .rename_i hk1
   cases he
   obtain⟨kt,el,rfl⟩:∃ kt el,u=.map kt el:=by grind
   obtain⟨k,es,clock,hq,hh,h1,_⟩:=VW hv
   exact xa4
  grind
 .rename_i l i q1
  rw[q1]at hv
  split at he
  .rename_i hk1
   split at he
   .rename_i ks vs bs clock hgg
    cases he
    obtain⟨kt,el,rfl⟩:∃ kt el,u=.map kt el:=by grind
    let⟨k,s,hb,hq⟩:=IE hv
    obtain⟨es,hh,h1,_,_⟩:=FC (hR.obj _ _ _ _ _ hb (YC hV hgg rfl))
    exact xa4
   grind
  grind
 grind
theorem ab0{c:Go.Call}(ho:o.op=.call c)(nK:c.callee=.builtin .cap)(hargs:c.args.toList=[x])(hty:c.argTypes[0]?=some ty)(hu:P.underlying ty=some (.slice el))(hx:bG x=some x')(ht:TR I W t a.tmps)
  (he:nP aa t x'=some (e,v,aU)):e=.p/\aU=aa/\cG P I W a.eval o v:=by
 have hv:=ht.eval hx
 have fin:∀(y:Value)(n:Nat),a.eval x=y->(∀ ty',(Builtin.cap_ c.argTypes ty' #[y]).run P W=.ok (goInt n) W)->cG P I W a.eval o (.int .i64 n):=fun y n hq hr =>
  ⟨.int .i64 n,by simp only[execOp,ho,resolve,nK,(xq hargs),W8,mQ,tX,hq,jB,lq,jJ,invoke,builtin,hr];rfl,.int _ _⟩
 unfold nP at he
 split at he
 .rename_i q1
  cases he
  rw[q1]at hv
  exact⟨rfl,rfl,fin _ 0 (yP hv) fun ty'=>by simp[Builtin.cap_,hty,run_underlying hu]⟩
 .rename_i l i off n cp sz q1
  cases he
  rw[q1]at hv
  obtain⟨_,_,_,cap',_,_,_,_,FY,hq⟩:=Fa hv
  obtain rfl:cap'=cp:=FY rfl
  exact⟨rfl,rfl,fin _ cap' hq fun ty'=>by simp[Builtin.cap_,hty,run_underlying hu]⟩
 grind
end
variable {LB xt:TypeId}{kq:IntKind}{need sCap sLen:Nat}{olds:List Value}{zv:Value}
section
variable {o:Oper} {aa:aS} {e:dI} 
theorem uZ{b:Nat}(pX:need<=2 ^ 30)(hcap:sCap<need)(hb:b<=1024):¬ (281474976710656<Builtin.nextslicecap need sCap*b):=by have h1:=nextslicecap_le hcap;have h3:=zlz Z hb;omega
theorem Df(w:World)(need old:Nat)(el:TypeId):need<=grownCap w need old el:=by show need<=need+_;omega
theorem AU{st:TypeId}{c:Nat}{i:TypeInfo}{base p:Option Addr}(hu:P.underlying st=some (.slice el))(qO:P.underlying xt=some (.slice LB))(hi:P.info? el=some i)(hb:i.bytes<=1024)(hz:i.zero=some zv)
  (pX:sLen+n<=2 ^ 30) (hcap:sCap<sLen+n) (hf:(Builtin.firstCells i.size n (.slice p n c)).run P W.drew=.ok ys.toArray W.drew) (ho:(Builtin.firstCells i.size sLen (.slice base sLen sCap)).run P W.drew=.ok olds.toArray W.drew) :
  (Builtin.append_ #[st,xt] ty #[.slice base sLen sCap,.slice p n c]).run P W=.ok (.slice (some ⟨W.heap.size,0,none⟩) (sLen+n) (grownCap W (sLen+n) sCap el)) (W.drew.alloc (.cells (olds.toArray++ys.toArray++Builtin.zeroCells zv.cells (grownCap W (sLen+n) sCap el-(sLen+n))) el)):=by
 simp[Builtin.append_,run_underlying hu,run_underlying qO,sizeOf,typeInfo,zeroValue,hi,hz,Builtin.lenOf,Z,Z,(uZ pX hcap hb),Question.forced,hf,ho,newRow,grownCap]
 grind
theorem AT{st:TypeId}{i:TypeInfo}{base:Option Addr}{kn:IntKind}(hu:P.underlying st=some (.slice el))(qO:P.underlying xt=some (.int kq))(hi:P.info? el=some i)(hb:i.bytes<=1024)(hz:i.zero=some zv)
  (hm:0<=m) (hmn:m.toNat=n) (hsz:i.size≠0) (hn0:n≠0)
  (pX:sLen+n<=2 ^ 30) (hcap:sCap<sLen+n) (ho:(Builtin.firstCells i.size sLen (.slice base sLen sCap)).run P W.drew=.ok olds.toArray W.drew) :
  (Builtin.append_ #[st,xt] ty #[.slice base sLen sCap,.int kn m]).run P W=.ok (.slice (some ⟨W.heap.size,0,none⟩) (sLen+n) (grownCap W (sLen+n) sCap el)) (W.drew.alloc (.cells (olds.toArray++Builtin.zeroCells zv.cells n++Builtin.zeroCells zv.cells (grownCap W (sLen+n) sCap el-(sLen+n))) el)):=by
 have mB:¬ (281474976710656<m*(i.bytes:Int)):=xee
 have hns:¬ (n*i.size=0):=by rw[zm1];omega
 simp[(show ¬ (9223372036854775807<(sLen:Int)+max m 0) by omega),hns,Builtin.append_,run_underlying hu,run_underlying qO,sizeOf,typeInfo,zeroValue,hi,hz,asInt,asIntOf,(IntWalk.i64_in m Z),(show ¬ m<0 by omega),mB,hmn,(show ¬ (sLen+n<=sCap) by omega),(uZ pX hcap hb),Question.forced,ho,newRow,grownCap]
theorem aeg{c:List IV}(h:seg c off n=some xs):off+n<=c.length/\xs=(c.drop off).take n:=by
 unfold seg at h;split at h
 .rename_i hh;rw[zi]at h;grind
 grind
theorem ZR{c:List IV}(h:seg c off n=some xs):xs.length=n/\∀ j z,xs[j]?=some z->c[off+j]?=some z:=by obtain⟨h1,rfl⟩:=aeg h;grind
theorem VG{len cap:Nat}{c:List IV}{x:Value}(hR:RS I (look d ah aa) W)(h:VR I W (.slM l i off len cap sz tight) x)(hg:look d ah aa l i=some (.cells c)) :
  ∃(k s o' cap':Nat),I l i=some (k,s)/\(cap=0∨o'=off+s)/\len<=cap/\cap<=cap'/\(tight=true->cap'=cap)/\x=.slice (some ⟨k,o',none⟩) len cap'/\(cap≠0->At I W c off ⟨k,o',none⟩):=by
 let⟨k,s,o',cap',hb,ho,hl,hc,ht,hx⟩:=Fa h
 refine⟨k,s,o',cap',hb,ho,hl,hc,ht,hx,fun h0=>?_⟩
 let⟨c',ty',hh,sD⟩:=hR.obj _ _ _ _ _ hb hg
 refine⟨rfl,fun j z hz=>?_⟩
 simp[World.cell?,hh,JX,nv,if_false]
 grind
theorem Nz{len:Nat}{x:Value}(h:VR I W (.slC cs len sz tight) x):∃(ad:Addr)(cap':Nat),x=.slice (some ad) len cap'/\len<=cap'/\(tight=true->cap'=len)/\(len≠0->At I W cs 0 ad)/\cs.length=len*sz:=by obtain⟨k,s,cap',ad,_,hc,hn,hl,ht,ha,hx⟩:=wk h;refine⟨ad,cap',hx,hl,ht,fun h0=>?_,hn⟩;obtain rfl:=ha h0;exact⟨rfl,fun j z hz=>hc j z (by grind)⟩
end
variable {eM:Bool}
section
variable {o:Oper} {aa:aS} {e:dI} 
structure Src(P:Program)(I:Pl)(W:World)(sz:Nat)(zv:Value)(xt:TypeId)(x:Value)(n:Nat)(new:List IV)(ys:List Value)(eM:Bool):Prop where
 rel:dx I W new ys
 len:new.length=n*sz
 eZ:eM=true->n<=2 ^ 30
 z:eM=true->∃ kq k m,P.underlying xt=some (.int kq)/\x=.int k m/\0<=m/\m.toNat=n/\ys=(Builtin.zeroCells zv.cells n).toList
 s:eM=false->∃ LB p c,P.underlying xt=some (.slice LB)/\x=.slice p n c/\∀ V:World,V.heap=W.heap->(Builtin.firstCells sz n (.slice p n c)).run P V=.ok ys.toArray V
theorem yX{len cap:Nat}{x:Value}{p:Option Addr}{c:List IV}(hx:x=.slice p len cap)(hp:(xs=[]/\len*sz=0)∨∃(ad:Addr)(off:Nat),p=some ad/\At I W c off ad/\(∀ j z,xs[j]?=some z->c[off+j]?=some z)/\xs.length=len*sz) :
  ∃ ys:List Value,(∀ V:World,V.heap=W.heap->(Builtin.firstCells sz len (.slice p len cap)).run P V=.ok ys.toArray V)/\dx I W xs ys:=by
 rcases hp with⟨rfl,h0⟩|⟨ad,off,rfl,hA,hr,hl⟩
 .refine⟨[],fun V _=>?_,.nil⟩
  cases p with
  |none=>rfl
  |some ad=>exact run_firstCells_some V sz len ad len cap [] (by grind) fun j y hj=>by grind
 .let⟨ys,e1,e2,e3⟩:=hA.cells hr hl
  refine⟨ys,fun V hV=>run_firstCells_some V sz len ad len cap ys e1 fun j y hj=>?_,e2⟩
  rw[←e3 j y hj]
  unfold World.cell?
  grind
theorem No{len:Nat}(hA:len≠0->At I W cs 0 ad)(g1:xs.length=len*sz)(g2:∀(j:Nat)(z:IV),xs[j]?=some z->cs[0+j]?=some z) :
  (xs=[]/\len*sz=0)∨∃(ad':Addr)(off:Nat),some ad=some ad'/\At I W cs off ad'/\(∀(j:Nat)(z:IV),xs[j]?=some z->cs[off+j]?=some z)/\xs.length=len*sz:=by
 by_cases h0:len=0
 .simp_all
 grind
theorem uo{new:List IV}(qO:P.underlying xt=some (.slice LB))(hx:bG x=some x')(ht:TR I W t a.tmps)(hR:RS I (look d ah aa) W)(hV:He aJ aa)(hsz:0<sz)(h:bW (look d ah aJ) sz (ρ t x')=some (new,n)) :
  ∃ ys,Src P I W sz zv xt (a.eval x) n new ys false:=by
 have hv:=ht.eval hx
 unfold bW at h
 split at h
 .rename_i q1
  rw[q1]at hv
  cases h
  refine⟨[],.nil,M,fun h=>by simp,fun h=>by grind,fun _=>⟨LB,none,0,qO,yP hv,fun V _=>by rfl⟩⟩
 .rename_i cs len sz0 tg q1
  rw[q1]at hv
  cases hs:seg cs 0 (len*sz)with
  |none=>grind
  |some xs =>
   rw[hs]at h;cases h
   let⟨ad,cap',hq,hl,FY,hA,hn⟩:=Nz hv
   let⟨g1,g2⟩:=ZR hs
   obtain⟨ys,f1,f2⟩:=yX (P:=P) (W:=W) (sz:=sz) (len:=n) (cap:=cap') rfl (No hA g1 g2)
   exact⟨ys,f2,g1,fun h=>by grind,fun h=>by grind,fun _=>⟨LB,some ad,cap',qO,hq,f1⟩⟩
 .rename_i l i off len cap sz0 tg q1
  rw[q1]at hv
  split at h
  .rename_i c hg
   cases hs:seg c off (len*sz)with
   |none=>grind
   |some xs =>
    rw[hs]at h;cases h
    let⟨k,s,o',cap',hb,ho,hl,hc,FY,hq,hA⟩:=VG hR hv (YC hV hg rfl)
    let⟨g1,g2⟩:=ZR hs
    by_cases h0:cap=0
    .have hn0:n=0:=Z
     subst hn0
     have:new=[]:=uc.1 Z
     subst this
     refine⟨[],.nil,M,fun h=>by simp,fun h=>by grind,fun _=>⟨LB,_,cap',qO,hq,fun V _=>?_⟩⟩
     exact run_firstCells_some V sz 0 _ 0 cap' [] M (fun j y hj=>by grind)
    .obtain⟨ys,f1,f2⟩:=yX rfl (.inr ⟨_,off,rfl,hA h0,g2,g1⟩)
     exact⟨ys,f2,g1,fun h=>by grind,fun h=>by grind,fun _=>⟨LB,_,cap',qO,hq,f1⟩⟩
  grind
 grind
theorem Kj(qO:P.underlying xt=some (.int kq))(hz:VR I W z zv)(hzl:z.cells.length=sz)(hsz:0<sz)(hx:bG x=some x')(ht:TR I W t a.tmps)(h:lg (ρ t x')=some n)(hn:n<=bound) :
  ∃ ys,Src P I W sz zv xt (a.eval x) n (rep z.cells n) ys true:=by
 let⟨k,m,h1,h2,h3⟩:=yS ht hx h
 have TN:=zT hz
 refine⟨(Builtin.zeroCells zv.cells n).toList,?_,by rw[yN,hzl],fun _=>hn,fun _=>⟨kq,k,m,qO,h1,h2,h3,rfl⟩,fun h=>by grind⟩
 have:=za3 TN Z n
 have hl:zv.cells.size=z.cells.length:=by have:=TN.1;grind
 unfold Builtin.zeroCells
 grind
theorem Eb{st:TypeId}{i:TypeInfo}{base:Option Addr}{x:Value}{new:List IV}(hu:P.underlying st=some (.slice el))(hi:P.info? el=some i)(hs:i.size=sz)(hsz:0<sz)(hb:i.bytes<=1024)(hz:i.zero=some zv)
  (hx:Src P I W sz zv xt x n new ys eM) (hn0:n≠0) (pX:sLen+n<=2 ^ 30) (hcap:sCap<sLen+n) (ho:∀ V:World,V.heap=W.heap->(Builtin.firstCells sz sLen (.slice base sLen sCap)).run P V=.ok olds.toArray V) (TN:zv.cells.size=sz) :
  ∃ lP rest,(Builtin.append_ #[st,xt] ty #[.slice base sLen sCap,x]).run P W=.ok (.slice (some ⟨W.heap.size,0,none⟩) (sLen+n) lP) (W.drew.alloc (.cells ((olds++ys).toArray++rest) el))/\sLen+n<=lP/\rest.size=(lP-(sLen+n))*sz:=by
 subst hs
 cases eM with
 |false =>
  obtain⟨LB,p,c,qO,rfl,hf⟩:=hx.s rfl
  refine⟨_,Builtin.zeroCells zv.cells (grownCap W (sLen+n) sCap el-(sLen+n)),?_,Df W (sLen+n) sCap el,by rw[Builtin.zeroCells,Array.size_map,Array.size_range,TN]⟩
  rw[AU hu qO hi hb hz pX hcap (hf _ rfl) (ho _ rfl)]
  grind
 |true =>
  obtain⟨kq,k,m,qO,rfl,hm,hmn,hys⟩:=hx.z rfl
  refine⟨_,Builtin.zeroCells zv.cells (grownCap W (sLen+n) sCap el-(sLen+n)),?_,Df W (sLen+n) sCap el,by rw[Builtin.zeroCells,Array.size_map,Array.size_range,TN]⟩
  rw[AT hu qO hi hb hz hm hmn Z hn0 pX hcap (ho _ rfl)]
  congr 3
  grind
theorem Y1{st:TypeId}{i:TypeInfo}{base:Addr}{x:Value}{new:List IV}(hu:P.underlying st=some (.slice el))(hi:P.info? el=some i)(hs:i.size=sz)(hsz:0<sz)(hb:i.bytes<=1024)(hz:i.zero=some zv)
  (hx:Src P I W sz zv xt x n new ys eM) (hcap:sLen+n<=sCap):(Builtin.append_ #[st,xt] ty #[.slice (some base) sLen sCap,x]).run P W=((storeCells (base.add (sLen*sz)) ys).run P W).andThen fun _ w=>.ok (.slice (some base) (sLen+n) sCap) w:=by
 subst hs
 cases eM with
 |false =>
  obtain⟨LB,p,c,qO,rfl,hf⟩:=hx.s rfl
  simp[Builtin.append_,run_underlying hu,run_underlying qO,sizeOf,typeInfo,zeroValue,hi,hz,Builtin.lenOf,hcap,hf]
 |true =>
  obtain⟨kq,k,m,qO,rfl,hm,hmn,hys⟩:=hx.z rfl
  have ou:=hx.eZ rfl
  have hw:IntKind.i64.wrap m=m:=IntWalk.i64_in m Z
  have hl0:¬ m<0:=Z
  have mB:¬ (281474976710656<m*(i.bytes:Int)):=xee
  by_cases hn0:n*i.size=0
  .have:ys=[]:=by have h1:=hx.rel.1;rw[hx.len,hn0]at h1;grind
   subst this
   simp[Builtin.append_,run_underlying hu,run_underlying qO,sizeOf,typeInfo,zeroValue,hi,hz,asInt,asIntOf,hw,hl0,mB,hmn,hcap,hn0,storeCells]
  .rw[hys]
   simp[Builtin.append_,run_underlying hu,run_underlying qO,sizeOf,typeInfo,zeroValue,hi,hz,asInt,asIntOf,hw,hl0,mB,hmn,hcap,hn0]
end
variable {ts:Array TypeId}
section
variable {o:Oper} {aa:aS} {e:dI} 
theorem Ec{st:TypeId}{args:Array Value}(h0:ts[0]?=some st)(h1:ts[1]?=some xt):Builtin.append_ ts ty args=Builtin.append_ #[st,xt] ty args:=by have e0:(#[st,xt]:Array TypeId)[0]?=some st:=rfl;have e1:(#[st,xt]:Array TypeId)[1]?=some xt:=rfl;unfold Builtin.append_;rw[h0,h1,e0,e1]
theorem S9{id:Nat}{c:List IV}{cs:Array Value}(hR:RS I (look d ah aa) W)(hf:aa[id]?=some .free)(h:∀(j:Nat)(x:IV),c[j]?=some x->∃ y,cs[j]?=some y/\VR I W x y)(hW:∃ q,W'=({ W with drawn:=q }:World).alloc (.cells cs ty)) :
  RS (upd I d id (W.heap.size,0)) (look d ah (aa.set id (.cells c))) W'/\Fr d I W (upd I d id (W.heap.size,0)) W':=by
 obtain⟨q,rfl⟩:=hW
 refine zee hR hf (fun l i s' o' hb _ _=>absurd (hR.here _ _ _ _ hb) Z) (.inl (cI _)) (fun k2 _ hk2=>Below.heap_alloc _ _ k2 hk2) M M (fun c t f hc=>absurd (RQ.1 hc).1 (zmw _)) rfl rfl rfl (fun e=>?_)
 refine⟨cs,ty,Z3 _ _,fun j x hx=>?_⟩
 obtain⟨y,hy,hv⟩:=h j x hx
 exact⟨y,hy,hv.ext e⟩
theorem acg{id lP:Nat}{cells:List IV}{rest:Array Value}(hR:RS I (look d ah aa) W)(hf:aa[id]?=some .free)(hrel:dx I W cells ys)(hlen:cells.length=need*sz)(hcap:need<=lP)(hroom:lP*sz<=(ys.toArray++rest).size) :
  ∃ β' W',W'=W.drew.alloc (.cells (ys.toArray++rest) el)/\RS β' (look d ah (aa.set id (.cells cells))) W'/\Fr d I W β' W'/\VR β' W' (.slM d id 0 need need sz false) (.slice (some ⟨W.heap.size,0,none⟩) need lP):=by
 obtain ⟨qU,hF⟩:=S9 (cs:=ys.toArray++rest) hR hf (fun j x hx=>by
  obtain⟨y,hy,hv⟩:=hrel.get hx;grind) ⟨W.drawn+1,rfl⟩
 exact⟨_,_,rfl,qU,hF,.slM (zX _ _ _ _) (.inr rfl) (cI _) hcap (fun h=>by simp at h) ⟨_,el,(0,0),Z3 _ _,by grind⟩⟩
theorem append_nil{st:TypeId}{i:TypeInfo}{x:Value}{new:List IV}(hu:P.underlying st=some (.slice el))(hi:P.info? el=some i)(hs:i.size=sz)(hx:Src P I W sz zv xt x 0 new ys eM) :
  (Builtin.append_ #[st,xt] ty #[.slice none 0 0,x]).run P W=.ok (.slice none 0 0) W:=by
 subst hs
 cases eM with
 |false =>
  obtain⟨LB,p,c,qO,rfl,hf⟩:=hx.s rfl
  simp[Builtin.append_,run_underlying hu,run_underlying qO,sizeOf,typeInfo,hi,Builtin.lenOf,hf]
 |true =>
  obtain⟨kq,k,m,qO,rfl,hm,hmn,hys⟩:=hx.z rfl
  have hm0:m=0:=Z
  subst hm0
  have hw:=IntWalk.i64_in 0 Z
  simp[Builtin.append_,run_underlying hu,run_underlying qO,sizeOf,typeInfo,hi,asInt,asIntOf,hw]
theorem za6{aa:aS}{id:Nat}{o:aP}{u:IV}{e:dI}(h:iG aa i id o u=some (e,v,aU)):aa[id]?=some .free/\e=.k i id/\v=u/\aU=(aa.set i .gone).set id o:=by
 unfold iG at h;split at h
 .rename_i hf;cases h;exact⟨hf,rfl,rfl,zi _⟩
 .simp at h
theorem G3{st:TypeId}{i:TypeInfo}{s:IV}{sv x:Value}{new:List IV}(hu:P.underlying st=some (.slice el))(hi:P.info? el=some i)(hs:i.size=sz)(hsz:0<sz)(hb:i.bytes<=1024)(hz:i.zero=some zv)(TN:zv.cells.size=sz)
  (hx:Src P I W sz zv xt x n new ys eM) (hv:VR I W s sv) (hR:RS I (look d ah aa) W) (hV:He aJ aa) (he:aY d n0 (look d ah aJ) aa sz s new n slot=some (e,v,aU)) :
  ∃ r β' W',(Builtin.append_ #[st,xt] ty #[sv,x]).run P W=.ok r W'/\VR β' W' v r/\RS β' (look d ah aU) W'/\Fr d I W β' W':=by
 have V7:ys.length=n*sz:=by rw[←hx.rel.1];exact hx.len
 unfold aY at he
 split at he
 .rename_i hn
  subst hn
  have hys:ys=[]:=uc.1 (by grind)
  split at he
  .cases he
   rw[yP hv]
   exact⟨_,I,W,append_nil hu hi hs hx,.nilsl,hR,Fr.refl _ _ _⟩
  .cases he
   obtain⟨k,s1,cap',ad,_,_,_,hl,_,_,hq⟩:=wk hv
   exact xcz
  .cases he
   obtain⟨k,s1,o',cap',qT,_,hl,hc,_,hq⟩:=Fa hv
   exact xcz
  .simp at he
 .rename_i hn
  have grow:∀{sLen sCap:Nat}{base:Option Addr}{Cv:List IV}{olds:List Value}{bJ:aS}{id:Nat},sLen+n<=2 ^ 30->sCap<sLen+n->(∀ V:World,V.heap=W.heap->(Builtin.firstCells sz sLen (.slice base sLen sCap)).run P V=.ok olds.toArray V) ->
    dx I W Cv olds->Cv.length=sLen*sz->RS I (look d ah bJ) W->bJ[id]?=some .free ->
    ∃ r β' W',(Builtin.append_ #[st,xt] ty #[.slice base sLen sCap,x]).run P W=.ok r W'/\VR β' W' (.slM d id 0 (sLen+n) (sLen+n) sz false) r/\RS β' (look d ah (bJ.set id (.cells (Cv++new)))) W'/\Fr d I W β' W':=by
   intro sLen sCap base Cv olds bJ id pX hcap ho TY hol pY hf
   obtain⟨lP,rest,hrun,hle,O4⟩:=Eb (ty:=ty) hu hi hs hsz hb hz hx hn pX hcap ho TN
   obtain ⟨β',W',hW',g1,g2,g3⟩:=acg (el:=el) (lP:=lP) (rest:=rest) (ys:=olds++ys) pY hf (TY.append hx.rel) (by rw [mV,hol,hx.len,JW]) hle (by
    have h1:=TY.1;simp only[Array.size_append,List.size_toArray,mV,O4,V7,←h1,hol];rw[←JW,←JW];exact MI _ Z)
   exact⟨_,β',W',by rw[hrun,hW'],g3,g1,g2⟩
  split at he
  .split at he
   .rename_i hle
    obtain⟨hf,rfl,rfl,rfl⟩:=yt he
    rw[yP hv]
    have:=grow (sLen:=0) (sCap:=0) (base:=none) (Cv:=[]) (olds:=[]) (bJ:=aa) xc6 Z (fun V _=>by simp[Builtin.firstCells]) .nil M hR hf
    simpa using this
   .simp at he
  .rename_i cs len sz0 tight
   split at he
   .rename_i hle
    obtain⟨hle,rfl⟩:=hle
    split at he
    .rename_i old hold
     obtain⟨hf,rfl,rfl,rfl⟩:=yt he
     obtain⟨ad,cap',hq,hl,FY,hA,hcn⟩:=Nz hv
     obtain⟨g1,g2⟩:=ZR hold
     obtain⟨olds,f1,f2⟩:=yX (P:=P) (W:=W) (sz:=sz) (len:=len) (cap:=cap') (x:=.slice (some ad) len cap') rfl (No hA g1 g2)
     rw[hq,zi]
     exact grow xc6 (by rw[FY rfl];omega) f1 f2 g1 hR hf
    .simp at he
   .simp at he
  .rename_i l bi off len cap sz0 tight
   split at he
   .rename_i hle
    obtain⟨hle,rfl⟩:=hle
    split at he
    .rename_i c hg
     have hg':=YC hV hg rfl
     obtain⟨k,s1,o',cap',qT,hoff,hl,hc,FY,hroom,hq⟩:=Xj hv
     obtain⟨_,_,_,_,_,_,_,_,_,tM,hA⟩:=VG hR hv hg'
     rw[hq]at tM
     cases tM
     split at he
     .rename_i hcap
      split at he
      .rename_i hh
       obtain⟨rfl,hfit,hsc⟩:=hh
       cases he
       rw[zi,zi]
       have Po:cap≠0:=Z
       obtain rfl:=hoff.resolve_left Po
       have hown:aa[bi]?=some (.cells c):=by rw[yi]at hg';exact hg'
       obtain⟨c',ty',hh,sD⟩:=hR.obj _ _ _ _ _ qT hg'
       obtain⟨c1,t1,f1,s9,hrm⟩:=hroom
       rw[hh]at s9
       cases s9
       have hone:=y6 hx.rel hsc
       have ac5:off+s1+len*sz0+ys.length<=c'.size:=by rw[V7,tq,←JW];refine iQ (zle (MI sz0 (?_:len+n<=cap')) _) hrm;omega
       have hrun:=run_storeCells_at (P:=P) k (off+s1+len*sz0) ty' ys 0 c' W hh Z hone
       obtain⟨W',hW'⟩:∃ W',W'=W.setRow k (c'.toList.take (off+s1+len*sz0+0)++ys++c'.toList.drop (off+s1+len*sz0+0+ys.length)).toArray:=⟨_,rfl⟩
       have hwl:off+len*sz0+new.length<=c.length:=by rw[hx.len,tq,←JW];exact hfit
       have hO:Ext I W I W'->OR I W' k s1 (.cells (dS c (off+len*sz0) new)):=fun ex=>by
        refine⟨_,ty',by rw[hW'];exact setRow_heap W k c' _ ty' _ hh,fun j z hz=>?_⟩;rw[ZP _ _ _ _ hwl]at hz;simp only[tY,zko];have hnl:new.length=ys.length:=hx.rel.1;by_cases hj:off+len*sz0<=j/\j<off+len*sz0+new.length
        .rw[bU hj]at hz;obtain⟨r,hr,r6⟩:=hx.rel.get hz;refine⟨r,?_,r6.ext ex⟩;rw[mo,q8 (by simp;omega),pN (by simp;omega)];rw[←hr];congr 1;simp;omega
        .rw[b9 hj]at hz;obtain⟨r,hr,r6⟩:=sD j z hz;refine⟨r,?_,r6.ext ex⟩;rw[←hr,mo,←EA];by_cases hjl:j<off+len*sz0
         .rw[pN (by simp;omega),zlj,bU Z]
         .rw[q8 (by simp;omega),q8 (by simp;omega),znb];congr 1;simp;omega
       have hrow:∀(c2:Array Value)(t2:TypeId)(f2:Nat×Nat),W.heap[k]?=some (.cells c2 t2 f2)->∃ c3,W'.heap[k]?=some (.cells c3 t2 f2)/\c3.size=c2.size:=fun c2 t2 f2 nM=>xcs
       obtain⟨qU,hF⟩:=zef (W':=W') hR hown rfl qT (fun k2 hk2=>by rw[hW'];exact setRow_other W k k2 _ hk2) (by rw[hW'];simp) hrow (by rw[hW'];rfl) (by rw[hW'];rfl) (by rw[hW'];rfl) hO rfl
       refine⟨_,I,W',?_,.slM (s:=s1) (o':=off+s1) qT (.inr rfl) hcap (iQ hc (cI _)) FY (Room.ext ⟨c',ty',(0,0),hh,hrm⟩ hF.ext),qU,hF⟩
       rw[hq,Y1 hu hi hs hsz hb hz hx Z,ZE rfl,hrun,←hW']
       rfl
      .simp at he
     .rename_i hcap
      split at he
      .rename_i old hold
       obtain⟨g1,g2⟩:=ZR hold
       have hfc:∃ olds:List Value,(∀ V:World,V.heap=W.heap->(Builtin.firstCells sz0 len (.slice (some ⟨k,o',none⟩) len cap')).run P V=.ok olds.toArray V)/\dx I W old olds:=by
        by_cases hc0:cap=0
        .have hl0:len=0:=Z;subst hl0;have:old=[]:=uc.1 (by rw[g1,qZ]);subst this;exact⟨[],fun V _=>run_firstCells_some V sz0 0 _ 0 cap' [] M (fun j y hj=>by simp at hj),.nil⟩
        .exact yX (P:=P) (W:=W) (sz:=sz0) (len:=len) (cap:=cap') (x:=.slice (some ⟨k,o',none⟩) len cap') rfl (.inr ⟨_,off,rfl,hA hc0,g2,g1⟩)
       obtain⟨olds,f1,f2⟩:=hfc
       split at he
       .rename_i Wb
        obtain⟨hf,rfl,rfl,rfl⟩:=yt he
        rw[hq,zi]
        exact grow xc6 (by rw[FY Wb];omega) f1 f2 g1 hR hf
       .split at he
        .rename_i hld
         obtain⟨rfl,hsc⟩:=hld
         obtain⟨hf,rfl,rfl,rfl⟩:=za6 he
         rw[zi]
         have hown:aa[bi]?=some (.cells c):=by rw[yi]at hg';exact hg'
         have hne:bi≠n0+slot:=fun h=>by rw[h,hf]at hown;simp at hown
         have pY:=wO hR hown
         have hf1:(aa.set bi .gone)[n0+slot]?=some .free:=by rw[zk8,b9 hne];exact hf
         by_cases hin:len+n<=cap'
         .have hone:=y6 hx.rel hsc
          obtain⟨c',ty',hh,sD⟩:=hR.obj _ _ _ _ _ qT hg'
          obtain⟨c1,t1,fz1,s9,hrm⟩:=hroom
          rw[hh]at s9
          cases s9
          have ac5:o'+len*sz0+ys.length<=c'.size:=by rw[V7,tq,←JW];exact iQ (zle (MI sz0 hin) _) hrm
          have hrun:=run_storeCells_at (P:=P) k (o'+len*sz0) ty' ys 0 c' W hh Z hone
          obtain⟨W',hW'⟩:∃ W',W'=W.setRow k (c'.toList.take (o'+len*sz0+0)++ys++c'.toList.drop (o'+len*sz0+0+ys.length)).toArray:=⟨_,rfl⟩
          have hrow:∀(c2:Array Value)(t2:TypeId)(f2:Nat×Nat),W.heap[k]?=some (.cells c2 t2 f2)->∃ c3,W'.heap[k]?=some (.cells c3 t2 f2)/\c3.size=c2.size:=fun c2 t2 f2 nM=>xcs
          have lz:k<W.heap.size:=hR.here _ _ _ _ qT
          obtain ⟨qU,hF⟩:=zee (id:=n0+slot) (k:=k) (s:=o') (o:=.cells (old++new)) (W':=W') pY hf1 (fun l2 i2 s' o2 hb hgl hlv=>by
            by_cases h:l2=l/\i2=bi
            .rw[h.1,h.2,zZ hown]at hgl;cases hgl;simp[aP.live]at hlv
            .rw[zU h]at hgl;exact h (hR.one _ _ _ _ _ _ _ _ _ hb qT hgl hg' hlv rfl)) (.inr ⟨bi,s1,qT⟩) (fun k2 hk2 _=>by rw [hW']; exact setRow_other W k k2 _ hk2)
           (by rw [hW']; simp) (by rw [hW']; simpa using lz) hrow (by rw [hW']; rfl) (by rw [hW']; rfl) (by rw [hW']; rfl) (fun ex=>by
            refine⟨_,ty',by rw[hW'];exact setRow_heap W k c' _ ty' _ hh,fun j z hz=>?_⟩;simp only[tY,zko];have hnl:new.length=ys.length:=hx.rel.1;by_cases hj:j<old.length
            .rw[pN hj]at hz;have Po:cap≠0:=by intro h0;have:len=0:=Z;rw[g1,this,qZ]at hj;omega
             obtain rfl:=hoff.resolve_left Po;obtain⟨r,hr,r6⟩:=sD _ z (g2 j z hz);refine⟨r,?_,r6.ext ex⟩;rw[g1]at hj;rw[mo,pN (by simp;omega),zlj,bU Z,←hr,←EA];congr 1;omega
            .rw[q8 Z]at hz;obtain⟨r,hr,r6⟩:=hx.rel.get hz;have hjl:=(ew.1 hr).1;refine⟨r,?_,r6.ext ex⟩;rw[g1]at hj hr hjl;rw[mo,q8 (by simp;omega),pN (by simp;omega)];rw [← hr]; congr 1; simp; omega)
          refine⟨_,_,W',?_,.slM (s:=o') (o':=o') (zX _ _ _ _) (.inr Z) (cI _) hin (fun h=>by simp at h) (Room.ext ⟨c',ty',(0,0),hh,hrm⟩ hF.ext),qU,hF⟩
          rw[hq,Y1 hu hi hs hsz hb hz hx hin,ZE rfl,hrun,←hW']
          rfl
         .rw[hq]
          exact grow xc6 Z f1 f2 g1 pY hf1
        .simp at he
      .simp at he
    .simp at he
   .simp at he
  .simp at he
end
variable {C:Call}{o':Nat}{pJ:j5}
section
variable {o:Oper} {aa:aS} {e:dI} 
theorem za7{i:TypeInfo}(h:qp P ty=true)(hi:P.info? ty=some i):i.bytes<=1024:=by unfold qp at h;grind
theorem BM{c:Go.Call}{st xt el:TypeId}{xu:TypeDesc}{sz slot:Nat}{z:IV}{eM:Bool}{s x:Operand}{s' x':bD}(ho:o.op=.call c)(nK:c.callee=.builtin .append)(hargs:c.args.toList=[s,x])(h0:c.argTypes[0]?=some st)(h1:c.argTypes[1]?=some xt)
  (hu:P.underlying st=some (.slice el)) (qO:P.underlying xt=some xu) (hn:cS P el=some sz) (hz:iK P el=some z) (F0:qp P el=true) (hzl:z.cells.length=sz) (hsz:0<sz) (hk:(eM=true/\∃ kq,xu=.int kq)∨(eM=false/\xu=.slice el))
  (hs:bG s=some s') (hx:bG x=some x') (ht:TR I W t a.tmps) (hR:RS I (look d ah aa) W) (hV:He aJ aa) (he:iC d ah n0 aJ aa t z.cells sz eM s' x' slot=some (e,v,aU)):fM P d ah I W a.eval o v aU:=by
 obtain⟨i,zv,hi,EI,V6⟩:=yH hz
 let⟨i',hi',hsize⟩:=yz hn
 rw[hi]at hi'
 cases hi'
 have TN:zv.cells.size=sz:=by have:=(zT V6).1;grind
 unfold iC at he
 have fin:∀{new:List IV}{n:Nat}{ys:List Value},Src P I W sz zv xt (a.eval x) n new ys eM->aY d n0 (look d ah aJ) aa sz (ρ t s') new n slot=some (e,v,aU)->fM P d ah I W a.eval o v aU:=by intro new n ys hS hA;obtain⟨r,β',W',g1,g2,g3,g4⟩:=G3 (ty:=o.type) hu hi hsize hsz (za7 F0 hi) EI TN hS (ht.eval hs) hR hV hA;refine⟨.value r,β',W',?_,g2,g3,g4⟩;rw[←Ec h0 h1]at g1;simp[execOp,ho,resolve,nK,(Bt hargs),W8,mQ,tX,jB,lq,jJ,invoke,builtin,g1]
 rcases hk with⟨rfl,kq,rfl⟩|⟨rfl,rfl⟩
 .rw[bU rfl]at he
  split at he
  .rename_i new n hq
   cases hnn:lg (ρ t x')with
   |none=>grind
   |some m =>
    rw[hnn]at hq
    simp only[iD]at hq
    split at hq
    .rename_i hle
     cases hq
     let⟨ys,hS⟩:=Kj qO V6 hzl hsz hx ht hnn hle
     grind
    grind
  grind
 .split at he
  .rename_i new n hq
   obtain⟨ys,hS⟩:=uo (zv:=zv) qO hx ht hR hV hsz hq
   grind
  grind
theorem zeo{s1:Nat}{u:IV}(hR:RS I (look d ah aa) W)(hb:I l i=some (k,s1))(ho:o'=off+s1)(hrel:dx I W xs ys)(hroom:Room W k (o'+ys.length))(he:lS d aa l i off xs u=some (e,v,aU)) :
  v=u/\∃ W',(storeCells ⟨k,o',none⟩ ys).run P W=.ok () W'/\RS I (look d ah aU) W'/\Fr d I W I W':=by
 unfold lS at he
 split at he
 rotate_left
 .grind
 rename_i c hg
 split at he
 rotate_left
 .grind
 rename_i hc
 let⟨rfl,hfit,hsc⟩:=hc
 cases he
 rw[zi,zi]
 subst ho
 let⟨c',ty',hh,sD⟩:=hR.obj _ _ _ _ _ hb (show look l ah aa l i=some (.cells c) by rw[yi];omega)
 let⟨c1,t1,f1,s9,hrm⟩:=hroom
 rw[hh]at s9
 cases s9
 have hnl:xs.length=ys.length:=hrel.1
 have hrun:=run_storeCells_at (P:=P) k (off+s1) ty' ys 0 c' W hh Z (y6 hrel hsc)
 let⟨W',hW'⟩:∃ W',W'=W.setRow k (c'.toList.take (off+s1+0)++ys++c'.toList.drop (off+s1+0+ys.length)).toArray:=⟨_,rfl⟩
 have hO:Ext I W I W'->OR I W' k s1 (.cells (dS c off xs)):=fun ex=>by
  refine⟨_,ty',by rw[hW'];exact setRow_heap W k c' _ ty' _ hh,fun j z hz=>?_⟩;rw[ZP _ _ _ _ hfit]at hz;simp only[tY,zko];by_cases hj:off<=j/\j<off+xs.length
  .rw[bU hj]at hz;let⟨r,hr,r6⟩:=hrel.get hz;refine⟨r,?_,r6.ext ex⟩;rw[mo,q8 (by grind),pN (by grind)];grind
  .rw[b9 hj]at hz;let⟨r,hr,r6⟩:=sD j z hz;refine⟨r,?_,r6.ext ex⟩;rw[←hr,mo,←EA];by_cases hjl:j<off
   .grind
   .grind
 have hrow:∀(c2:Array Value)(t2:TypeId)(f2:Nat×Nat),W.heap[k]?=some (.cells c2 t2 f2)->∃ c3,W'.heap[k]?=some (.cells c3 t2 f2)/\c3.size=c2.size:=fun c2 t2 f2 nM=>by rw[hh]at nM;cases nM;exact⟨_,by rw[hW'];exact setRow_heap W k c' _ ty' _ hh,by grind⟩
 obtain⟨qU,hF⟩:=zef (W':=W') hR hg rfl hb (fun k2 hk2=>by rw[hW'];exact setRow_other W k k2 _ hk2) (by simp[*]) hrow (by simp[*]) (by simp[*]) (by simp[*]) hO rfl
 grind
theorem afn(h:ts[0]?=some ty)(r:TypeId)(args:Array Value):Builtin.clear_ ts r args=Builtin.clear_ #[ty] r args/\Builtin.copy_ ts r args=Builtin.copy_ #[ty] r args:=by unfold Builtin.clear_ Builtin.copy_;grind
theorem abz{c:Go.Call}(ho:o.op=.call c)(nK:c.callee=.builtin .clear)(hargs:c.args.toList=[x])(h0:c.argTypes[0]?=some ty)(hu:P.underlying ty=some (.slice el))(hn:cS P el=some n)(hz:iK P el=some z)(hzl:z.cells.length=n)(hn0:0<n)
  (hx:bG x=some x') (ht:TR I W t a.tmps) (hR:RS I (look d ah aa) W) (he:vr d aa t z.cells n x'=some (e,v,aU)):fM P d ah I W a.eval o v aU:=by
 have hv:=ht.eval hx
 obtain⟨i,zv,hi,EI,V6⟩:=yH (I:=I) (W:=W) hz
 have hzs:=zT V6
 have fin:∀{W':World},(Builtin.clear_ #[ty] o.type #[a.eval x]).run P W=.ok (.tuple #[]) W'->(execOp a.eval o).run P W=.ok (.value (.tuple #[])) W':=fun h=>by simp[execOp,ho,resolve,nK,xq hargs,W8,mQ,tX,jB,lq,jJ,invoke,builtin,(afn h0 _ _).1,h]
 unfold vr at he
 split at he
 .rename_i q1
  rw[q1]at hv
  cases he
  refine⟨.value (.tuple #[]),I,W,fin ?_,?_,hR,Fr.refl _ _ _⟩
  .rw[yP hv]
   simp[Builtin.clear_,run_underlying hu]
  .exact .tuple rfl (fun _ _ _ h=>by simp)
 .rename_i l i1 off len cap sz0 tg q1
  rw[q1]at hv
  let⟨k,s1,o',cap',hb,hoff,hl,hc,FY,hroom,hq⟩:=Xj hv
  split at he
  .rename_i Wu
   subst Wu
   cases he
   refine⟨.value (.tuple #[]),I,W,fin ?_,.tuple rfl (fun _ _ _ h=>by simp),hR,Fr.refl _ _ _⟩
   rw[hq]
   simp[Builtin.clear_,run_underlying hu]
  .split at he
   .rename_i hsz
    subst hsz
    have hlen:zv.cells.size=sz0:=by have:=hzs.1;grind
    have hrel:=za3 (I:=I) (W:=W) hzs Z len
    rw[hzl]at hrel
    have acp:dx I W (rep z.cells len) (Builtin.zeroCells zv.cells len).toList:=by unfold Builtin.zeroCells;grind
    obtain ⟨rfl,W',hw,qU,hF⟩:=zeo (P:=P) hR hb (hoff.resolve_left Z) acp (by
     let⟨c1,t1,f1,hh,hrm⟩:=hroom;refine⟨c1,t1,f1,hh,?_⟩;rw[(show(Builtin.zeroCells zv.cells len).toList.length=len*sz0 by simp[Builtin.zeroCells,hlen])];exact iQ (zle (MI _ (iQ hl hc)) _) hrm) he
    refine⟨.value (.tuple #[]),I,W',fin ?_,.tuple rfl (fun _ _ _ h=>by simp),qU,hF⟩
    rw[hq]
    simp[Builtin.clear_,run_underlying hu,zeroValue,typeInfo,hi,EI,hw]
   grind
 grind
theorem aby{c:Go.Call}(ho:o.op=.call c)(nK:c.callee=.builtin .copy)(hargs:c.args.toList=[x,y])(h0:c.argTypes[0]?=some ty)(hu:P.underlying ty=some (.slice el))(hn:cS P el=some n)(hn0:0<n)
  (hx:bG x=some x') (hy:bG y=some y') (ht:TR I W t a.tmps) (hR:RS I (look d ah aa) W) (hV:He aJ aa) (he:vq d ah aJ aa t n x' y'=some (e,v,aU)):fM P d ah I W a.eval o v aU:=by
 have hv:=ht.eval hx
 let⟨i,hi,hsize⟩:=yz hn
 have fin:∀{W':World}{r:Value},(Builtin.copy_ #[ty] o.type #[a.eval x,a.eval y]).run P W=.ok r W'->(execOp a.eval o).run P W=.ok (.value r) W':=fun h=>by simp[execOp,ho,resolve,nK,Bt hargs,W8,mQ,tX,jB,lq,jJ,invoke,builtin,(afn h0 _ _).2,h]
 unfold vq at he
 split at he
 rotate_left
 .grind
 rename_i l i1 off len cap sz0 tg xs m q1 lQ
 rw[q1]at hv
 let⟨k,s1,o',cap',hb,hoff,hl,hc,FY,hroom,hq⟩:=Xj hv
 split at he
 rotate_left
 .grind
 rename_i hh
 let⟨rfl,rfl⟩:=hh
 obtain⟨ys,hS⟩:=uo (zv:=.bool false) hu hy ht hR hV hn0 lQ
 obtain⟨LB,p,c2,_,hqy,hf⟩:=hS.s rfl
 have V7:ys.length=m*sz0:=by rw[←hS.rel.1];exact hS.len
 have run:∀{W':World},(storeCells ⟨k,o',none⟩ ys).run P W=.ok () W'->(Builtin.copy_ #[ty] o.type #[a.eval x,a.eval y]).run P W=.ok (.int .i64 m) W':=fun h=>by rw[hq,hqy];simp[Builtin.copy_,run_underlying hu,Builtin.lenOf,sizeOf,typeInfo,hi,hsize,hf,h,goInt]
 split at he
 .rename_i Wu
  subst Wu
  cases he
  have hy0:ys=[]:=uc.1 (by grind)
  subst hy0
  exact⟨_,I,W,fin (run rfl),.int _ _,hR,Fr.refl _ _ _⟩
 .obtain ⟨rfl,W',hw,qU,hF⟩:=zeo (P:=P) hR hb (hoff.resolve_left Z) hS.rel (by
   let⟨c1,t1,f1,hh,hrm⟩:=hroom;refine⟨c1,t1,f1,hh,?_⟩;rw[V7];exact iQ (zle (MI _ (iQ hl hc)) _) hrm) he
  exact⟨_,I,W',fin (run hw),.int _ _,qU,hF⟩
theorem abu(ho:o.op=.makeSlice ty x y)(hu:P.underlying ty=some (.slice el))(hn:cS P el=some n)(hz:iK P el=some z)(F0:qp P el=true)(hzl:z.cells.length=n)(hn0:0<n)(hx:bG x=some x')(hy:bG y=some y')
  (ht:TR I W t a.tmps) (hR:RS I (look d ah aa) W) (he:sK d n0 aa t z.cells n x' y' slot=some (e,v,aU)):fM P d ah I W a.eval o v aU:=by
 unfold sK at he
 split at he
 rotate_left
 .grind
 rename_i m m2 hm hm2
 split at he
 rotate_left
 .grind
 rename_i hh
 let⟨rfl,hle⟩:=hh
 obtain⟨hf,rfl,rfl,rfl⟩:=yt he
 obtain⟨i,zv,hi,EI,V6⟩:=yH (I:=I) (W:=W) hz
 let⟨ie,hie,hs⟩:=yz hn
 obtain rfl:i=ie:=by grind
 have hb:=za7 F0 hi
 have e0:dx I W (rep z.cells m) (((Array.range (m*n)).map ((if m*n=0 then(#[]:Array Value)else zv.cells)[·%(if m*n=0 then(#[]:Array Value)else zv.cells).size]!)).toList):=by
  by_cases h0:m*n=0
  .have hl0:m=0:=by rcases zm1.1 h0 with h|h<;>omega
   subst hl0;simp[rep];exact .nil
  .have:=za3 (I:=I) (W:=W) (zT V6) Z m;grind
 obtain⟨qU,hF⟩:=wN (ty:=el) hR hf e0 (W':=W.alloc (.cells _ el)) ⟨W.drawn,rfl⟩
 let⟨k1,a1,h1,h2,h3⟩:=yS ht hx hm
 let⟨k2,a2,g1,g2,g3⟩:=yS ht hy hm2
 rw[zi]
 refine⟨.value (.slice (some ⟨W.heap.size,0,none⟩) m m),_,_,?_,?_,qU,hF⟩
 .have hle':m<=1073741824:=hle
  have w1:IntKind.i64.wrap a1=a1:=IntWalk.i64_in a1 Z
  have w2:IntKind.i64.wrap a2=a2:=IntWalk.i64_in a2 Z
  have hbig:(i.bytes:Int)*a2<=1024*1073741824:=zn2 Z Z Z Z
  have c1:¬ ((a2<0∨281474976710656<(i.bytes:Int)*a2)):=Z
  have c2:¬ (a1<0):=Z
  have c3:¬ (a2<a1):=Z
  by_cases h0:m*n=0
  .simp[execOp,ho,Instr.makeSlice,run_underlying hu,typeInfo,sizeOf,hi,hs,asInt,asIntOf,h1,g1,w1,w2,c1,c2,c3,askRoom,h3,g3,h0,newRow]
  .simp[execOp,ho,Instr.makeSlice,run_underlying hu,typeInfo,zeroValue,sizeOf,hi,hs,EI,asInt,asIntOf,h1,g1,w1,w2,c1,c2,c3,askRoom,h3,g3,h0,newRow]
 .exact .slM (s:=0) (zX _ _ _ _) (.inr M) (cI _) (cI _) (fun h=>by rfl) ⟨_,_,_,Z3 _ _,M⟩
theorem map_some{γ:Type}{f:H->γ}{x:Option H}{y:γ}(h:x.map f=some y):∃ z,x=some z/\y=f z:=by
 cases x with
 |none=>grind
 |some z=>grind
theorem zK(h:e=.p/\aU=aa/\cG P I W a.eval o v)(hR:RS I (look d ah aa) W):fM P d ah I W a.eval o v aU:=by obtain⟨_,rfl,h⟩:=h;exact h.step hR
theorem ZF(h:aU=aa/\cG P I W a.eval o v)(hR:RS I (look d ah aa) W):fM P d ah I W a.eval o v aU:=by let⟨rfl,h⟩:=h;exact h.step hR
theorem Jw(ho:o.op=.binOp op ty x y ty')(hop:op=if neg then .neq else .eql)(hu:P.underlying ty=some u)(hc:QM.cEq P ty x' y' neg u=some pJ)
  (ht:TR I W t a.tmps) (hx:bG x=some x') (hy:bG y=some y') (he:bY C d ah n0 aJ aa t pJ=some (e,v,aU)):e=.p/\aU=aa/\cG P I W a.eval o v:=by
 unfold QM.cEq at hc
 split at hc
 .cases hc
  exact abx ho hop hu ht hx hy he
 .cases hc
  exact abw ho hop hu ht hx hy he
 .cases hc
  exact abv ho hop hu ht hx hy he
 .exact xcb
 .exact xcb
 grind
theorem QL(ho:o.op=.binOp op ty x y ty')(hc:QM P op ty x' y'=some pJ)
  (ht:TR I W t a.tmps) (hx:bG x=some x') (hy:bG y=some y') (he:bY C d ah n0 aJ aa t pJ=some (e,v,aU)):e=.p/\aU=aa/\cG P I W a.eval o v:=by
 unfold QM at hc
 split at hc
 .cases hc
  exact VJ ho ht hx hy he
 .split at hc
  .grind
  .cases hc
   exact VJ ho ht hx hy he
 .rename_i u _ _ hu
  split at hc
  .exact Jw ho rfl hu hc ht hx hy he
  .exact Jw ho rfl hu hc ht hx hy he
  grind
 grind
theorem args1{c:Go.Call}{s:bD}(h:allM bG c.args.toList=some [s]):∃ x,c.args.toList=[x]/\bG x=some s:=by
 let⟨h1,h2⟩:=Z1 h;match hl:c.args.toList,h1,h2 with
 |[x],_,h2=>let⟨y,g1,g2⟩:=h2 0 x rfl;grind
theorem args2{c:Go.Call}{s r:bD}(h:allM bG c.args.toList=some [s,r]):∃ x y,c.args.toList=[x,y]/\bG x=some s/\bG y=some r:=by
 let⟨h1,h2⟩:=Z1 h;match hl:c.args.toList,h1,h2 with
 |[x,y],_,h2 =>
  let⟨p,g1,g2⟩:=h2 0 x rfl
  let⟨q,g3,g4⟩:=h2 1 y rfl
  grind
theorem L6{c:Go.Call}(ho:o.op=.call c)(hc:Jx P c slot=some pJ)(sE:∀ f y xs,c.callee=.value f->bG f=some y->allM bG c.args.toList=some xs->pJ=.call y xs slot->fM P d ah I W a.eval o v aU)
  (ht:TR I W t a.tmps) (hR:RS I (look d ah aa) W) (hV:He aJ aa) (he:bY C d ah n0 aJ aa t pJ=some (e,v,aU)):fM P d ah I W a.eval o v aU:=by
 unfold Jx at hc
 split at hc
 .rename_i f xs h1 h2
  obtain⟨y,hy,rfl⟩:=map_some hc
  grind
 .rename_i s x h1 h2
  let⟨s0,x0,hl,hs,hx⟩:=args2 h2
  split at hc
  .rename_i st xt h3 h4
   split at hc
   .rename_i el xu h5 h6
    split at hc
    .rename_i n z h7 h8
     split at hc
     .rename_i hh
      simp[kE,Ev,pM]at hh
      let⟨⟨F0,hzl⟩,hn⟩:=hh
      split at hc
      .cases hc
       exact BM ho h1 hl h3 h4 h5 h6 h7 h8 F0 hzl hn (.inl ⟨rfl,_,rfl⟩) hs hx ht hR hV he
      .split at hc
       .rename_i hee
        cases hc
        have:=Ev.1 hee
        subst this
        exact BM ho h1 hl h3 h4 h5 h6 h7 h8 F0 hzl hn (.inr ⟨rfl,rfl⟩) hs hx ht hR hV he
       grind
      grind
     grind
    grind
   grind
  grind
 .rename_i x h1 h2
  let⟨x0,hl,hx⟩:=args1 h2
  split at hc
  .rename_i ty h3
   split at hc
   .rename_i h4
    cases hc
    exact ZF (NN ho h1 hl h3 h4 (.inl ⟨rfl,rfl⟩) hx ht hR hV he) hR
   .rename_i el h4
    cases hc
    exact ZF (NN ho h1 hl h3 h4 (.inr (.inl ⟨_,rfl,rfl⟩)) hx ht hR hV he) hR
   .rename_i el h4
    cases hc
    exact ZF (NN ho h1 hl h3 h4 (.inr (.inr ⟨_,_,rfl,rfl⟩)) hx ht hR hV he) hR
   grind
  grind
 .rename_i x h1 h2
  let⟨x0,hl,hx⟩:=args1 h2
  split at hc
  .rename_i ty h3
   split at hc
   .rename_i el h4
    cases hc
    exact zK (ab0 ho h1 hl h3 h4 hx ht he) hR
   grind
  grind
 .rename_i x h1 h2
  let⟨x0,hl,hx⟩:=args1 h2
  split at hc
  .rename_i ty h3
   split at hc
   .rename_i el h4
    split at hc
    .rename_i n z h5 h6
     split at hc
     .rename_i hh
      simp[kE,Ev,pM]at hh
      cases hc
      exact abz ho h1 hl h3 h4 h5 h6 hh.1 hh.2 hx ht hR he
     grind
    grind
   grind
  grind
 .rename_i x y h1 h2
  let⟨x0,y0,hl,hx,hy⟩:=args2 h2
  split at hc
  .rename_i ty h3
   split at hc
   .rename_i el h4
    split at hc
    .rename_i n h5
     split at hc
     .rename_i hh
      cases hc
      exact aby ho h1 hl h3 h4 h5 hh hx hy ht hR hV he
     grind
    grind
   grind
  grind
 .rename_i x y h1 h2
  let⟨x0,y0,hl,hx,hy⟩:=args2 h2
  cases hc
  exact zK (aeh (isMax:=true) ho h1 hl hx hy ht he) hR
 .rename_i x y h1 h2
  let⟨x0,y0,hl,hx,hy⟩:=args2 h2
  cases hc
  exact zK (aeh (isMax:=false) ho h1 hl hx hy ht he) hR
 grind
theorem XZ(hc:QK P o.op slot=some pJ)(sE:∀ c f y xs,o.op=.call c->c.callee=.value f->bG f=some y->allM bG c.args.toList=some xs->pJ=.call y xs slot->fM P d ah I W a.eval o v aU)
  (ht:TR I W t a.tmps) (hR:RS I (look d ah aa) W) (hV:He aJ aa) (he:bY C d ah n0 aJ aa t pJ=some (e,v,aU)):fM P d ah I W a.eval o v aU:=by
 cases ho:o.op
 all_goals rw[ho]at hc;simp only[QK]at hc
 all_goals first
  |grind
  |skip
 case call c=>exact L6 ho hc (fun f y xs h1 h2 h3 h4=>sE c f y xs ho h1 h2 h3 h4) ht hR hV he
 case move x =>
  obtain⟨y,hx,rfl⟩:=map_some hc
  cases he
  exact(XG ho ht hx).step hR
 case assign x =>
  obtain⟨y,hx,rfl⟩:=map_some hc
  cases he
  exact(NQ ho ht hx).step hR
 case nilCheck x =>
  obtain⟨y,hx,rfl⟩:=map_some hc
  exact zK (NJ ho ht hx he) hR
 case pick x y z =>
  split at hc
  .rename_i h1 h2 h3
   cases hc
   exact zK (XE ho ht h1 h2 h3 he) hR
  grind
 case alloc el =>
  obtain⟨z,hz,rfl⟩:=map_some hc
  exact XF ho hz hR he
 case box ty x =>
  obtain⟨y,hx,rfl⟩:=map_some hc
  exact ab1 ho hx ht hR he
 case build ty parts =>
  split at hc
  .rename_i fs z h1 h2
   split at hc
   .rename_i h3
    obtain⟨ps,h4,rfl⟩:=map_some hc
    exact zK (zek ho h1 h2 h3 h4 ht he) hR
   grind
  .rename_i h1 h2
   split at hc
   .rename_i h3
    obtain⟨ps,h4,rfl⟩:=map_some hc
    exact zK (tB ho h1 h2 h3 h4 ht he) hR
   grind
  grind
 case buildSlice ty len parts =>
  split at hc
  .rename_i el h1
   split at hc
   .rename_i n z h2 h3
    split at hc
    .rename_i h4
     obtain⟨ps,h5,rfl⟩:=map_some hc
     cases hol:On z.cells
     .simp[hol,nv,if_false]at he
      obtain⟨_,rfl,h⟩:=NP (ah:=ah) (d:=d) ho h1 h3 h2 h4.1 h4.2.1 h4.2.2 h5 ht hR he
      omega
     .simp[hol,if_true]at he
      exact NK ho h1 h3 h2 h4.1 h4.2.1 h4.2.2 h5 ht hR he
    grind
   grind
  grind
 case load ty x =>
  split at hc
  .rename_i h1 h2
   cases hc
   exact ZF (XI ho h1 h2 ht hR hV he) hR
  grind
 case store ty x y =>
  split at hc
  .rename_i h1 h2 h3
   split at hc
   .grind
   .rename_i h4
    cases hc
    exact SR ho h1 h4 h2 h3 ht hR he
  grind
 case binOp op ty x y ty' =>
  split at hc
  .rename_i h1 h2
   exact zK (QL ho hc ht h1 h2 he) hR
  grind
 case unOp op ty x =>
  obtain⟨y,hx,rfl⟩:=map_some hc
  exact zK (af5 ho ht hx he) hR
 case convert s d x =>
  split at hc
  .rename_i h1 h2 h3
   cases hc
   exact zK (XJ ho h1 h2 ht h3 he) hR
  grind
 case makeFunc f xs ys =>
  cases f<;>simp only[QK]at hc
  all_goals first
   |(simp at hc;done)
   |skip
  split at hc
  .rename_i h1 h2
   cases hc
   cases he
   exact(XH ho ht h1 h2).step hR
  grind
 case makeMap ty n =>
  cases n<;>simp only[QK]at hc
  .cases hc
   exact SU ho hR he
  grind
 case makeSlice ty x y =>
  split at hc
  .rename_i el x' y' h1 h2 h3
   split at hc
   .rename_i n z h4 h5
    split at hc
    .rename_i hh
     simp[kE,Ev,pM]at hh
     cases hc
     exact abu ho h1 h4 h5 hh.1.1 hh.1.2 hh.2 h2 h3 ht hR he
    grind
   grind
  grind
 case slice ty x lo hi mx =>
  split at hc
  .rename_i h1 h2 h3 h4 h5
   split at hc
   .grind
   .rename_i h6
    obtain⟨n,hn,rfl⟩:=map_some hc
    exact zK (SS ho h1 hn ht h2 h3 h4 h5 h6 he) hR
  grind
 case fieldAddr s x f =>
  split at hc
  .rename_i fs y h1 h2
   split at hc
   .rename_i fd h3
    split at hc
    .rename_i n h4
     split at hc
     .grind
     .rename_i h5
      cases hc
      exact zK (SY ho h1 h3 h4 h5 ht h2 he) hR
    grind
   grind
  grind
 case indexAddr ty x ix =>
  split at hc
  .rename_i h1 h2 h3
   obtain⟨n,hn,rfl⟩:=map_some hc
   exact zK (SX ho h1 hn ht h2 h3 he) hR
  grind
 case index ty x ix =>
  split at hc
  .rename_i h1 h2 h3
   split at hc
   .rename_i h4 h5
    split at hc
    .rename_i h6
     subst h6
     cases hc
     exact zK (SV ho h1 h4 h5 ht h2 h3 he) hR
    grind
   grind
  .rename_i h1 h2 h3
   cases hc
   exact zK (NO ho h1 ht h2 h3 he) hR
  grind
 case lookup ty x ix ok =>
  split at hc
  .rename_i h1 h2 h3
   split at hc
   .rename_i h4 h5
    obtain⟨z,hz,rfl⟩:=map_some hc
    exact ZF (NM ho h1 h4 h5 hz h2 h3 ht hR hV he) hR
   grind
  grind
 case mapUpdate ty m k w =>
  split at hc
  .rename_i h1 h2 h3 h4
   split at hc
   .rename_i h5 h6
    cases hc
    exact NL ho h1 h5 h6 h2 h3 h4 ht hR he
   grind
  grind
 case extract x i =>
  obtain⟨y,hx,rfl⟩:=map_some hc
  exact zK (Ky ho ht hx he) hR
 all_goals (cases hc;simp[bY]at he)
end
def Seen(aJ aa:aS):Prop:=aJ.length=aa.length/\∀(i:Nat)(o:aP),aJ[i]?=some o->aa[i]?=some o∨o=.gone
structure nX(B:Nat)(W0:World)(I:Pl)(W:World):Prop where
 low:∀ l i k s,I l i=some (k,s)->B<=k
 size:B<=W.heap.size
 below:Below B W0 W
variable {B:Nat}
theorem nX.fr{W0:World}(h:nX B W0 I W)(f:Fr d I W β' W'):nX B W0 β' W' where
 low l i k s hb:=by
  rcases f.fresh l i k s hb with hb|⟨_,⟨i',s',hb⟩|hk⟩
  .exact h.low _ _ _ _ hb
  .exact h.low _ _ _ _ hb
  .exact iQ h.size hk
 size:=iQ h.size f.size
 below:=h.below.trans ⟨f.os,f.tape,f.output,f.size,fun k hk=>f.block k (W6 hk h.size) fun i s hb=>absurd (h.low _ _ _ _ hb) Z⟩
def l6(P:Program)(B:Nat)(W0:World)(C:Call):Prop:=∀(d:Nat)(ah:bq)(aJ aa:aS)(id:Nat)(f:FuncId)(args:List IV)(e:dI)(v:IV)(aU:aS)(args':List Value)(I:Pl)(W:World),
 C d ah aJ aa id f args=some (e,v,aU)->nX B W0 I W->Seen aJ aa->RS I (look d ah aa) W->dx I W args args' ->
  (∃ fn, P.funcs[f]? = some fn ∧ fn.name ≠ "runtime.NumGoroutine" ∧ fn.body.isSome = true) ∧ Calls P f args'.toArray W fun x W' => ∃ y β', x = .returned y ∧ VR β' W' v y ∧ RS β' (look d ah aU) W' ∧ Fr d I W β' W' ∧ (e = .r → Below W.heap.size W W')
variable {ops:Array Oper}{st1:St}{vis:List Nat}
section
variable {o:Oper} {aa:aS} {e:dI} 
theorem M7{g:Option (Nat×Bool)}(hg:pG ops o.guard=some g)(ht:TR I W t a.tmps):Region.wanted o (yielded ops a.tmps)=cK t g:=by
 unfold Region.wanted;cases hog:o.guard with
 |none=>rw[hog]at hg;simp[pG,iw]at hg;subst hg;rfl
 |some jb =>
  let⟨j,b⟩:=jb
  rw[hog]at hg
  simp[pG]at hg
  split at hg
  .rename_i k hk
   cases hg
   show(yielded ops a.tmps j==some b)=_
   unfold yielded cK
   rw[hk]
   simp[iD]
   have h1:=ht.1
   cases hx:t[k]? with
   |none =>
    grind
   |some x =>
    let⟨y,hy,hv⟩:=dx.get ht hx
    rw[EA]at hy
    rw[hy]
    cases hv<;>simp
  grind
theorem C8{x:aP}(h:(bI vis n0 aa)[i]?=some x):aa[i]?=some x∨x=.gone:=by unfold bI at h;rw[zi,List.getElem?_mapIdx]at h;grind
theorem Pe:He (bI vis n0 aa) aa:=fun i x h hl=>by
 rcases C8 h with h|rfl
 .omega
 .simp[aP.live]at hl
theorem Xs{drawn:Bool}:He (if drawn then bI vis n0 aa else aa) aa:=by
 cases drawn
 .exact He.refl _
 .exact Pe
theorem SQ{drawn:Bool}:Seen (if drawn then bI vis n0 aa else aa) aa:=by
 cases drawn
 .exact⟨rfl,fun i o h=>.inl h⟩
 .exact⟨by simp[bI,zi],fun i o h=>C8 h⟩
theorem QJ{c:Go.Call}{f:Operand}(ho:o.op=.call c)(nK:c.callee=.value f)(hc:QK P o.op slot=some pJ):∃ y xs,bG f=some y/\allM bG c.args.toList=some xs/\pJ=.call y xs slot:=by
 rw[ho]at hc;simp[QK]at hc;unfold Jx at hc;rw[nK]at hc;split at hc
 .rename_i f' xs h1 h2;cases h1;obtain⟨y,hy,rfl⟩:=map_some hc;grind
 all_goals grind
theorem VS{W0:World}(hC:l6 P B W0 C)(hb:nX B W0 I W){r:cg}{st:St}{drawn:Bool}{K:Act->World->Prop}{Q:Exit->Act->World->Prop}(hi:ops[i]?=some o)(hr:r.dst=o.dst)(hop:QK P o.op slot=some r.op)(hg:pG ops o.guard=some r.guard)
  (ht:TR I W st.t a.tmps) (hR:RS I (look d ah st.aa) W) (hs:gW C d ah drawn n0 r st=some (e,st1))
  (hK:∀(β':Pl)(W':World)(a':Act),TR β' W' st1.t a'.tmps->RS β' (look d ah st1.aa) W'->Fr d I W β' W'->a'.defers=a.defers->K a' W'):wpOp P ops Q i K a W:=by
 unfold wpOp
 rw[hi]
 simp[M7 hg ht]
 have hput:∀(dst:Option Nat)(x:Value),(a.put dst x).defers=a.defers:=fun dst x=>by cases dst<;>rfl
 unfold gW at hs
 split at hs
 .rename_i hw
  rw[bU hw]
  refine .inl ?_
  split at hs
  .rename_i e' v bJ he
   cases hs
   by_cases hcv:∃ c f,o.op=.call c/\c.callee=.value f
   .let⟨c,f,ho,nK⟩:=hcv
    let⟨y,xs,hy,hxs,ag2⟩:=QJ ho nK hop
    rw[ag2]at he
    simp only[bY,jG]at he
    split at he
    .rename_i g first cap hq
     have hvf:=ht.eval hy
     rw[hq]at hvf
     let⟨first',cap',h1,h2,hfe⟩:=fnI hvf
     let⟨⟨fn,hfn,hnm,hbd⟩,jM⟩:=hC _ _ _ _ _ _ _ _ _ _ (first'.toList++(c.args.toList.map a.eval)++cap'.toList) I W he hb SQ hR ((h1.append (zej ht hxs)).append h2)
     have hex:(execOp a.eval o).run P W=.ok (.enter g (first'.toList++(c.args.toList.map a.eval)++cap'.toList).toArray) W:=by
      simp only[execOp,ho,resolve,nK,Deferred.ofValue,hfe,jB,lq,jJ,invoke,callFunc];have ahp:fn.body≠none:=by grind
      simp[*]
     unfold Oper.wp
     rw[hex,Oper.upon_enter]
     refine jM.mono fun x W' hx=>?_
     obtain⟨y',β',rfl,g1,g2,g3,_⟩:=hx
     refine hK β' W' _ ?_ g2 g3 (hput _ _)
     rw[←hr]
     exact(ht.ext g3.ext).put g1 _
    grind
   .obtain⟨nx,β',W',h1,h2,h3,h4⟩:=XZ (ah:=ah) hop (fun c f y xs s9 hh2 _ _ _=>absurd ⟨c,f,s9,hh2⟩ hcv) ht hR (Xs (drawn:=drawn)) he
    unfold Oper.wp
    rw[h1]
    cases nx with
    |value x =>
     refine hK β' W' _ ?_ h3 h4 (hput _ _)
     rw[←hr]
     exact(ht.ext h4.ext).put h2 _
    |skip =>
     rw[Oper.upon_skip]
     refine hK β' W' _ ?_ h3 h4 (hput _ _)
     rw[←hr,show v=.tuple []from h2]
     exact(ht.ext h4.ext).put za0 _
    |_=>exact absurd h2 id
  grind
 .rename_i hw
  cases hs
  rw[b9 hw]
  refine hK I W _ ?_ hR (Fr.refl _ _ _) (hput _ _)
  rw[←hr]
  exact ht.put za0 _
end
variable {l':List Nat}{t':List IV}
section
variable {aa:aS} {e:dI} 
def fO(t t':List IV)(l:List Nat):Prop:=∀ i∈l,pE (.tuple []) t i=pE (.tuple []) t' i
def fO.left{l:List Nat}(h:fO t t' (l++l')):fO t t' l:=fun i hi=>h i (zmy _ hi)
def fO.right{l:List Nat}(h:fO t t' (l++l')):fO t t' l':=fun i hi=>h i (zlt _ hi)
theorem fO.kj{x:bD}(h:fO t t' x.tmps):ρ t x=ρ t' x:=by
 cases x with
 |tmp i=>exact h i (by simp[bD.tmps])
 |const v=>rfl
def fO.XY{xs:List bD}(h:fO t t' (xs.flatMap bD.tmps)):xs.map (ρ t)=xs.map (ρ t') :=
 zm5 fun x hx=>fO.kj fun i hi=>h i (oQ.2 ⟨x,hx,hi⟩)
theorem fO.fill:∀{ps:List (Nat×Nat×bD)}{c:List IV},fO t t' (ps.flatMap (·.2.2.tmps))->dX t c ps=dX t' c ps
 |[],c,_=>rfl
 |(off,n,x)::rest,c,h=>by
  have h1:fO t t' (x.tmps++rest.flatMap (·.2.2.tmps)):=by grind
  simp[dX];rw[h1.left.kj];split
  .exact fO.fill h1.right
  rfl
theorem fO.opt{x:Option bD}(h:fO t t' (mJ x)):kI t n x=kI t' n x:=by
 cases x with
 |none=>rfl
 |some x=>exact dL lg (fO.kj h)
theorem fO.sl{u:IV}{lo hi mx:Option bD}(h1:fO t t' (mJ lo))(h2:fO t t' (mJ hi))(h3:fO t t' (mJ mx)):dA sz t u lo hi mx=dA sz t' u lo hi mx:=by unfold dA;simp[h1.opt,h2.opt,h3.opt]
theorem fO.ev(h:fO t t' pJ.tmps):bY C d ah n0 aJ aa t pJ=bY C d ah n0 aJ aa t' pJ:=by
 cases pJ<;>simp only[j5.tmps]at h<;>simp only[bY,ef,gZ,Gh,kr,e8,fZ,ig,fG,fI,jy,lE,lD,ij,Am,fH,mM,cE,kZ,e7,fL,bF,jG,iC,e_len,oy,nP,vr,vq,sK];case mov=>rw[h.kj]
 case nilchk=>rw[h.kj]
 case pick=>rw[h.left.left.kj,h.left.right.kj,h.right.kj]
 case box=>rw[h.kj]
 case build=>rw[h.fill]
 case bslice=>rw[h.fill]
 case mslice=>rw[h.fill]
 case load=>rw[h.kj]
 case store=>rw[h.left.kj,h.right.kj]
 case bin=>rw[h.left.kj,h.right.kj]
 case eqagg=>rw[h.left.kj,h.right.kj]
 case eqb=>rw[h.left.kj,h.right.kj]
 case eqp=>rw[h.left.kj,h.right.kj]
 case eqs=>rw[h.left.kj,h.right.kj]
 case un=>rw[h.kj]
 case conv=>rw[h.kj]
 case mkfn=>rw[h.left.XY,h.right.XY]
 case slice=>rw[h.left.left.left.kj,h.left.left.right.sl h.left.right h.right]
 case faddr=>rw[h.kj]
 case iaddr=>rw[h.left.kj,h.right.kj]
 case index=>rw[h.left.kj,h.right.kj]
 case indexS=>rw[h.left.kj,h.right.kj]
 case lookup=>rw[h.left.kj,h.right.kj]
 case mapupd=>rw[h.left.left.kj,h.left.right.kj,h.right.kj]
 case extract=>rw[h.kj]
 case call=>rw[h.left.kj,h.right.XY]
 case append=>rw[h.left.kj,h.right.kj]
 case len=>rw[h.kj]
 case mx=>rw[h.left.kj,h.right.kj]
 case cap=>rw[h.kj]
 case clr=>rw[h.kj]
 case cpy=>rw[h.left.kj,h.right.kj]
 case mks=>rw[h.left.kj,h.right.kj]
end
variable {O:aP}{bJ:aS}{ix:bD}
section
variable {aa:aS} {e:dI} 
def mZ(d:Nat)(ah:bq)(f:List aP->List aP->jI)(sl:Option Nat)(aJ aa:aS)(e:dI)(v:IV)(bJ:aS):Prop :=
 match e with
 |.p=>bJ=aa/\∀ oV o,f oV o=some (.p,v,o)
 |.r=>bJ=aa/\∀ o,f aJ o=some (.r,v,o)
 |.rl l i off n=>bJ=aa/\∃ c,look d ah aJ l i=some (.cells c)/\∀ oV o c',look d ah oV l i=some (.cells c')->(∀ k,off<=k->k<off+n->c'[k]?=c[k]?)->f oV o=some (.rl l i off n,v,o)
 |.a=>∃ s O,sl=some s/\aa[s]?=some .free/\bJ=aa.set s O/\∀ o,o[s]?=some .free->f aJ o=some (.a,v,o.set s O)
 |.w l i off n=>l=d/\∃ c xs,aa[i]?=some (.cells c)/\xs.length=n/\off+n<=c.length/\bJ=aa.set i (.cells (dS c off xs))/\∀ oV,f oV aa=some (.w l i off n,v,bJ)
 |.k i s=>sl=some s/\∃ O,bJ=(aa.set i .gone).set s O
 |.x=>True
def qX(C:Call):Prop:=∀(d:Nat)(ah:bq)(aJ aa:aS)(id:Nat)(f:FuncId)(args:List IV)(e:dI)(v:IV)(bJ:aS),C d ah aJ aa id f args=some (e,v,bJ) ->
 mZ d ah (fun oV o=>C d ah oV o id f args) (some id) aJ aa e v bJ
theorem Ym{f:List aP->List aP->jI}{id:Nat}{u:IV}(hf:∀ o,f aJ o=dD o id O u)(h:f aJ aa=some (e,v,bJ)):mZ d ah f (some id) aJ aa e v bJ:=by rw[hf]at h;obtain⟨h1,rfl,rfl,rfl⟩:=yt h;refine⟨id,O,rfl,h1,rfl,fun o ho=>?_⟩;rw[hf];unfold dD;rw[ho];simp[zi]
theorem VB{f:List aP->List aP->jI}{sl:Option Nat}{r:Option IV}(hf:∀ oV o,f oV o=r.map fun v=>(.p,v,o))(h:f aJ aa=some (e,v,bJ)):mZ d ah f sl aJ aa e v bJ:=by rw[hf]at h;obtain⟨w,rfl,hw⟩:=map_some h;cases hw;exact xf7
theorem uD:∀{n:Nat}{c c':List IV}{off:Nat},(∀ k,off<=k->k<off+n->c'[k]?=c[k]?)->bB c' off n=bB c off n
 |0,_,_,_,_=>rfl
 |n+1,c,c',off,h=>by simp[bB];rw[h off (cI _) Z,uD (fun k h1 h2=>h k Z Z)]
theorem Gi{x:bD}{sl:Option Nat}(h:ig d ah aJ aa t agg n x=some (e,v,bJ)):mZ d ah (fun oV o=>ig d ah oV o t agg n x) sl aJ aa e v bJ:=by
 unfold ig at h ⊢;cases hx:ρ t x<;>rw[hx]at h<;>simp only at h<;>first|grind|skip
 case ptrM l i off =>
  split at h
  .rename_i c hc
   let⟨w,hw,hq⟩:=map_some h
   cases hq
   refine⟨rfl,c,hc,fun oV o c' EM hag=>?_⟩
   simp[EM,uD hag,hw,iJ]
  grind
 case ptrC cs off=>exact VB (fun oV o=>rfl) h
theorem DI{x y:bD}{sl:Option Nat}(h:fG d aa t n x y=some (e,v,bJ)):mZ d ah (fun _ o=>fG d o t n x y) sl aJ aa e v bJ:=by
 have h0:=h;unfold fG at h;split at h
 .split at h
  .rename_i c hc;split at h
   .rename_i hh;obtain⟨hl,hn,hfit,_⟩:=hh;cases h;refine⟨hl,c,_,hc,hn,hfit,by rw[zi,zi],fun oV=>h0⟩
   grind
  grind
 grind
theorem LD{x:bD}{sl:Option Nat}(h:e_len d ah aJ aa t k x=some (e,v,bJ)):mZ d ah (fun oV o=>e_len d ah oV o t k x) sl aJ aa e v bJ:=by
 unfold e_len at h ⊢;cases hx:ρ t x<;>rw[hx]at h<;>simp only at h<;>first|grind|skip
 case mapM l i =>
  split at h
  .rename_i hk
   split at h
   .rename_i ks vs bs clock hc
    cases h
    exact⟨rfl,fun o=>by grind⟩
   grind
  grind
 all_goals
  split at h
  .rename_i hk
   cases h
   exact xf7
  grind
theorem Ao{zero:IV}{x:bD}{sl:Option Nat}(h:e7 d ah aJ aa t zero kt ok x ix=some (e,v,bJ)):mZ d ah (fun oV o=>e7 d ah oV o t zero kt ok x ix) sl aJ aa e v bJ:=by
 unfold e7 at h ⊢;cases hx:ρ t x<;>rw[hx]at h<;>simp only at h<;>first|grind|skip
 case mapM l i =>
  let⟨⟨e',w⟩,h1,h2⟩:=map_some h
  split at h1
  .rename_i ks vs bs clock hc
   let⟨w',h3,h4⟩:=map_some h1
   cases h4
   cases h2
   exact⟨rfl,fun o=>by grind⟩
  grind
 all_goals
  let⟨⟨e',w⟩,h1,h2⟩:=map_some h
  let⟨w',h3,h4⟩:=map_some h1
  cases h4
  cases h2
  exact xf7
theorem zc4{s:IV}{new:List IV}(h:aY d n0 (look d ah aJ) aa sz s new n slot=some (e,v,bJ)):mZ d ah (fun oV o=>aY d n0 (look d ah oV) o sz s new n slot) (some (n0+slot)) aJ aa e v bJ:=by
 unfold aY at h ⊢;by_cases hn:n=0
 .rw[bU hn]at h;simp[bU hn];split at h<;>first|grind|(cases h;exact⟨rfl,fun o=>rfl⟩)
 .rw[b9 hn]at h;simp only[b9 hn];cases s<;>simp only at h<;>first|grind|skip
  case nilsl =>
   split at h
   .rename_i hk
    exact Ym (fun o=>by simp[bU hk];rfl) (by grind)
   grind
  case slC cs len sz0 tight =>
   split at h
   .rename_i hk
    split at h
    .rename_i old hold
     exact Ym (fun o=>by simp[bU hk,hold];rfl) (by grind)
    grind
   grind
  case slM l i off len cap sz0 tight =>
   split at h
   .rename_i hk
    split at h
    .rename_i c hc
     split at h
     .split at h
      .cases h;trivial
      grind
     .rename_i hcap
      split at h
      .rename_i old hold
       split at h
       .rename_i Wb
        exact Ym (fun o=>by simp[bU hk,hc,b9 hcap,hold,bU Wb];rfl) (by grind)
       .split at h
        .obtain⟨_,rfl,_,rfl⟩:=za6 h
         exact⟨rfl,_,rfl⟩
        grind
      grind
    grind
   grind
theorem Cd{x:bD}:∃ r:Option IV,∀ o,ef o t x=r.map fun v=>(.p,v,o):=by refine⟨(ef [] t x).map (·.2.1),fun o=>?_⟩;unfold ef;grind
theorem N9{c a b:bD}:∃ r:Option IV,∀ o,gZ o t c a b=r.map fun v=>(.p,v,o):=by refine⟨(gZ [] t c a b).map (·.2.1),fun o=>?_⟩;unfold gZ;grind
theorem Cf{z:List IV}{len:Nat}:∃ r:Option IV,∀ o,e8 o t z sz len ps=r.map fun v=>(.p,v,o):=by
 refine⟨(e8 [] t z sz len ps).map (·.2.1),fun o=>?_⟩;unfold e8;exact xdd
theorem Ib{x y:bD}:∃ r:Option IV,∀ o,fI o t neg ks x y=r.map fun v=>(.p,v,o):=by
 refine⟨(fI [] t neg ks x y).map (·.2.1),fun o=>?_⟩;unfold fI;first
  |rfl
  |grind
  |(split<;>first|rfl|(simp[J4];rfl)|grind)
theorem VO{x y:bD}:∃ r:Option IV,∀ o,jy o t neg x y=r.map fun v=>(.p,v,o):=by
 refine⟨(jy [] t neg x y).map (·.2.1),fun o=>?_⟩;unfold jy;exact xdd
theorem VN{x y:bD}:∃ r:Option IV,∀ o,lE o t neg x y=r.map fun v=>(.p,v,o):=by
 refine⟨(lE [] t neg x y).map (·.2.1),fun o=>?_⟩;unfold lE;exact xdd
theorem VM{x y:bD}:∃ r:Option IV,∀ o,lD o t neg x y=r.map fun v=>(.p,v,o):=by
 refine⟨(lD [] t neg x y).map (·.2.1),fun o=>?_⟩;unfold lD;exact xdd
theorem Ob{k:IntKind}{x:bD}:∃ r:Option IV,∀ o,ij o t k x=r.map fun v=>(.p,v,o):=by refine⟨(ij [] t k x).map (·.2.1),fun o=>?_⟩;unfold ij;grind
theorem Ia{x:bD}:∃ r:Option IV,∀ o,fH o t off x=r.map fun v=>(.p,v,o):=by refine⟨(fH [] t off x).map (·.2.1),fun o=>?_⟩;unfold fH;grind
theorem H9{x:bD}:∃ r:Option IV,∀ o,mM o t sz x ix=r.map fun v=>(.p,v,o):=by refine⟨(mM [] t sz x ix).map (·.2.1),fun o=>?_⟩;unfold mM;grind
theorem H8{len:Nat}{x:bD}:∃ r:Option IV,∀ o,cE o t agg sz len x ix=r.map fun v=>(.p,v,o):=by
 refine⟨(cE [] t agg sz len x ix).map (·.2.1),fun o=>?_⟩;unfold cE;first
  |rfl
  |grind
  |(split<;>first|rfl|grind|(split<;>first|rfl|(simp only[J4];rfl)))
theorem Ce{x:bD}:∃ r:Option IV,∀ o,kZ o t x ix=r.map fun v=>(.p,v,o):=by refine⟨(kZ [] t x ix).map (·.2.1),fun o=>?_⟩;unfold kZ;grind
theorem uE{x:bD}:∃ r:Option IV,∀ o,bF o t x i=r.map fun v=>(.p,v,o):=by refine⟨(bF [] t x i).map (·.2.1),fun o=>?_⟩;unfold bF;grind
theorem aek{m:Bool}{x y:bD}:∃ r:Option IV,∀ o,oy o t m x y=r.map fun v=>(.p,v,o):=by refine⟨(oy [] t m x y).map (·.2.1),fun o=>?_⟩;unfold oy;grind
theorem VP{x:bD}:∃ r:Option IV,∀ o,nP o t x=r.map fun v=>(.p,v,o):=by refine⟨(nP [] t x).map (·.2.1),fun o=>?_⟩;unfold nP;grind
end
section
variable {aa:aS} {e:dI} 
theorem ZG{f:List aP->jI}{sl:Option Nat}(hq:∃ r:Option IV,∀ o,f o=r.map fun v=>(.p,v,o))(h:f aa=some (e,v,bJ)):mZ d ah (fun _ o=>f o) sl aJ aa e v bJ:=by let⟨r,hr⟩:=hq;exact VB (fun _ o=>hr o) h
theorem Ap{z:List IV}{s x:bD}(h:iC d ah n0 aJ aa t z sz eM s x slot=some (e,v,bJ)):mZ d ah (fun oV o=>iC d ah n0 oV o t z sz eM s x slot) (some (n0+slot)) aJ aa e v bJ:=by
 unfold iC at h ⊢;cases eM
 .split at h
  .rename_i new n hc;have h1:=zc4 h;cases e with
   |p =>
    unfold aY at h
    revert h
    intro h
    split at h
    .grind
    .cases hs:ρ t s<;>rw[hs]at h<;>simp only at h<;>first|grind|skip
     .exact xf0
     .split at h
      .split at h
       .split at h
        .grind
        .split at h
         .split at h
          .cases(yt h).2.1
          .split at h
           .cases(za6 h).2.1
           grind
         grind
       grind
      grind
     .split at h
      .exact xf0
      grind
   |r=>exact⟨h1.1,fun o=>by simp only[hc];exact h1.2 o⟩
   |rl l i off k =>
    exact xab
   |a =>
    let⟨q,O,g1,g2,g3,g4⟩:=h1
    exact⟨q,O,g1,g2,g3,fun o ho=>by grind⟩
   |w l i off k =>
    exact xab
   |k i s=>exact h1
   |x=>trivial
  grind
 .simp[if_true]at h ⊢;split at h
  .rename_i new n hc;exact zc4 h
  grind
theorem An{m k x:bD}{sl:Option Nat}(h:fL d aa t kt m k x=some (e,v,bJ)):mZ d ah (fun _ o=>fL d o t kt m k x) sl aJ aa e v bJ:=by
 unfold fL at h;split at h
 .split at h
  .split at h
   .split at h
    .cases h;trivial
    .cases h;trivial
    grind
   grind
  grind
 grind
theorem LF{x:bD}(h:kr d n0 aa t x slot=some (e,v,bJ)):mZ d ah (fun _ o=>kr d n0 o t x slot) (some (n0+slot)) aJ aa e v bJ:=by
 unfold kr at h ⊢;split at h
 .rename_i hk;simp only[bU hk];exact Ym (fun o=>rfl) h
 grind
theorem Al{z:List IV}{len:Nat}(h:fZ d n0 aa t z sz len ps slot=some (e,v,bJ)):mZ d ah (fun _ o=>fZ d n0 o t z sz len ps slot) (some (n0+slot)) aJ aa e v bJ:=by
 unfold fZ at h ⊢;cases hf:dX t (rep z len) ps with
 |none=>grind
 |some c =>
  rw[hf]at h
  simp only at h ⊢
  split at h
  .rename_i hk
   simp only[bU hk]
   exact Ym (fun o=>rfl) h
  grind
theorem Dx{u:IV}(h:lS d aa l i off xs u=some (e,v,bJ)):e=.x:=by unfold lS at h;grind
theorem adt{z:List IV}{x:bD}(h:vr d aa t z sz x=some (e,v,bJ)):e=.x:=by
 unfold vr at h;split at h
 .grind
 .split at h
  .grind
  .split at h
   .exact Dx h
   grind
 grind
theorem adq{x y:bD}(h:vq d ah aJ aa t sz x y=some (e,v,bJ)):e=.x:=by
 unfold vq at h;split at h
 .split at h
  .split at h
   .grind
   .exact Dx h
  grind
 grind
theorem LC{z:List IV}{x y:bD}(h:sK d n0 aa t z sz x y slot=some (e,v,bJ)):mZ d ah (fun _ o=>sK d n0 o t z sz x y slot) (some (n0+slot)) aJ aa e v bJ:=by
 unfold sK at h ⊢;split at h
 .split at h
  .rename_i hk;simp[bU hk];exact Ym (fun o=>rfl) h
  grind
 grind
theorem aaq(hC:qX C)(h:bY C d ah n0 aJ aa t pJ=some (e,v,bJ)):mZ d ah (fun oV o=>bY C d ah n0 oV o t pJ) (pJ.oU.map (n0+·)) aJ aa e v bJ:=by
 cases pJ<;>simp only[bY]at h ⊢<;>try omega
 case mov x=>exact VB (r:=some (ρ t x)) (fun _ o=>rfl) h
 case nilchk=>exact ZG Cd h
 case pick=>exact ZG N9 h
 case newv=>exact Ym (fun o=>rfl) h
 case box=>exact LF h
 case build z ps=>exact VB (r:=(dX t z ps).map .agg) (fun _ o=>by simp[J4];rfl) h
 case bslice=>exact ZG Cf h
 case mslice=>exact Al h
 case load=>exact Gi h
 case store=>exact DI h
 case bin op x y=>exact VB (r:=lX op (ρ t x) (ρ t y)) (fun _ o=>rfl) h
 case eqagg=>exact ZG Ib h
 case eqb=>exact ZG VO h
 case eqp=>exact ZG VN h
 case eqs=>exact ZG VM h
 case un op x=>exact VB (r:=Bs op (ρ t x)) (fun _ o=>rfl) h
 case conv=>exact ZG Ob h
 case mkfn f a b=>exact VB (r:=some (.fn f (a.map (ρ t)) (b.map (ρ t)))) (fun _ o=>rfl) h
 case mkmap=>exact Ym (fun o=>rfl) h
 case slice sz x lo hi mx=>exact VB (r:=dA sz t (ρ t x) lo hi mx) (fun _ o=>rfl) h
 case faddr=>exact ZG Ia h
 case iaddr=>exact ZG H9 h
 case index=>exact ZG H8 h
 case indexS=>exact ZG Ce h
 case lookup=>exact Ao h
 case mapupd=>exact An h
 case extract=>exact ZG uE h
 case call f xs slot =>
  unfold jG at h ⊢
  split at h
  .rename_i g first cap hq
   exact hC _ _ _ _ _ _ _ _ _ _ h
  grind
 case append=>exact Ap h
 case len=>exact LD h
 case mx=>exact ZG aek h
 case cap=>exact ZG VP h
 case clr=>exact adt h▸trivial
 case cpy=>exact adq h▸trivial
 case mks=>exact LC h
 grind
theorem yR{f:List aP->jI}(hq:∃ r:Option IV,∀ o,f o=r.map fun v=>(.p,v,o))(h:f aa=some (e,v,bJ)):e=.p:=by let⟨r,hr⟩:=hq;rw[hr]at h;obtain⟨w,_,hw⟩:=map_some h;grind
theorem xh{r:Option IV}(h:(r.map fun v=>(dI.p,v,aa))=some (e,v,bJ)):e=.p:=by obtain⟨w,_,hw⟩:=map_some h;grind
theorem PW(hq:pJ.quiet=true)(h:bY C d ah n0 aJ aa t pJ=some (e,v,bJ)):e=.p:=by
 cases pJ<;>simp[j5.quiet,nv]at hq<;>simp only[bY]at h;case mov x=>grind
 case nilchk=>exact yR Cd h
 case pick=>exact yR N9 h
 case build z ps=>obtain⟨_,_,hw⟩:=map_some h;grind
 case bslice=>exact yR Cf h
 case bin op x y=>exact xh h
 case eqagg=>exact yR Ib h
 case eqb=>exact yR VO h
 case eqp=>exact yR VN h
 case eqs=>exact yR VM h
 case un op x=>exact xh h
 case conv=>exact yR Ob h
 case mkfn f a b=>grind
 case slice sz x lo hi mx=>exact xh h
 case faddr=>exact yR Ia h
 case iaddr=>exact yR H9 h
 case index=>exact yR H8 h
 case indexS=>exact yR Ce h
 case extract=>exact yR uE h
 case mx=>exact yR aek h
 case cap=>exact yR VP h
 grind
noncomputable def fR(C:Call)(d:Nat)(ah:bq)(n0:Nat)(o:cg)(t:List IV)(oV aa:aS):jI :=
 if cK t o.guard then bY C d ah n0 oV aa t o.op else some (.p,.tuple [],aa)
theorem za8{drawn:Bool}{o:cg}{st:St}:gW C d ah drawn n0 o st=(fR C d ah n0 o st.t (if drawn then bI o.vis n0 st.aa else st.aa) st.aa).map fun r=>(r.1,⟨put st.t o.dst r.2.1,r.2.2⟩):=by unfold gW fR;grind
theorem PT(hC:qX C){o:cg}(h:fR C d ah n0 o t aJ aa=some (e,v,bJ)):mZ d ah (fR C d ah n0 o t) (o.op.oU.map (n0+·)) aJ aa e v bJ:=by
 unfold fR at h;split at h
 .rename_i hw;have:fR C d ah n0 o t=fun oV ow=>bY C d ah n0 oV ow t o.op:=by funext oV ow;unfold fR;grind
  rw[this];exact aaq hC h
 .rename_i hw;cases h;refine⟨rfl,fun oV ow=>?_⟩;unfold fR;grind
theorem PS{o:cg}(hq:o.op.quiet=true)(h:fR C d ah n0 o t aJ aa=some (e,v,bJ)):e=.p:=by
 unfold fR at h;split at h
 .exact PW hq h
 grind
theorem Dy{o:cg}(h:fO t t' o.reads)(hl:t.length=t'.length):fR C d ah n0 o t aJ aa=fR C d ah n0 o t' aJ aa:=by
 unfold fR;have h2:cK t o.guard=cK t' o.guard:=by
  cases hg:o.guard with
  |none=>rfl
  |some jb =>
   let⟨j,b⟩:=jb
   have h3:=h j (zlt _ (by grind))
   rw[yc,yc]at h3
   simp[cK]
   grind
 rw[(fO.left h).ev,h2]
end
variable {dst:Option Nat}{i':Nat}{oi oj:cg}
section
variable {aa rW:aS} {e ej ei:dI} {xj xi:IV} 
theorem zu:(bI vis n0 aa)[k]?=(aa[k]?).map fun o=>if k<n0||vis.contains (k-n0)then o else .gone:=by unfold bI;rw[zi,List.getElem?_mapIdx]
theorem Ze(h:vis.contains s=false):bI vis n0 (aa.set (n0+s) O)=bI vis n0 aa:=by apply Hj;intro k;rw[zu,zu,zk8];grind
theorem CM{o:Nat}{c:List IV}(h:look d ah (bI vis n0 aa) l i=some (.cells c))(hw:aa[i']?=some (.cells c2))(hf:o'+xs.length<=c2.length)
  (hne:(l==d&&i==i')=false∨o+n<=o'∨o'+xs.length<=o) :
  ∃ c',look d ah (bI vis n0 (aa.set i' (.cells (dS c2 o' xs)))) l i=some (.cells c')/\∀ k,o<=k->k<o+n->c'[k]?=c[k]?:=by
 unfold look at h ⊢
 by_cases hl:l=d
 .rw[bU hl]at h ⊢
  rw[zu]at h ⊢
  by_cases hi:i=i'
  .subst hi
   rw[hw,iJ]at h
   split at h
   .rename_i hv
    cases h
    refine⟨_,by rw[vW (ew.1 hw).1,iJ,bU hv],fun k h1 h2=>?_⟩
    rw[ZP _ _ _ _ hf,b9]
    rcases hne with hne|hne|hne
    .grind
    .omega
    omega
   grind
  grind
 grind
theorem xI{o:Nat}{c:List IV}(h:look d ah (bI vis n0 (aa.set i' (.cells (dS c2 o' xs)))) l i=some (.cells c))(hw:aa[i']?=some (.cells c2))(hf:o'+xs.length<=c2.length)
  (hne:(l==d&&i==i')=false∨o+n<=o'∨o'+xs.length<=o) :
  ∃ c',look d ah (bI vis n0 aa) l i=some (.cells c')/\∀ k,o<=k->k<o+n->c'[k]?=c[k]?:=by
 unfold look at h ⊢
 by_cases hl:l=d
 .rw[bU hl]at h ⊢
  rw[zu]at h ⊢
  by_cases hi:i=i'
  .subst hi
   rw[vW (ew.1 hw).1,iJ]at h
   split at h
   .rename_i hv
    cases h
    refine⟨_,by rw[hw,iJ,bU hv],fun k h1 h2=>?_⟩
    rw[ZP _ _ _ _ hf,b9]
    grind
   grind
  grind
 grind
theorem uX(h:j≠i):(bI vis n0 (aa.set i .gone))[j]?=(bI vis n0 aa)[j]?:=by rw[zu,zu,EV (Se h)]
theorem zep{c:List IV}(h:j≠i)(hc:look d ah (bI vis n0 aa) l j=some (.cells c)):look d ah (bI vis n0 (aa.set i .gone)) l j=some (.cells c):=by
 unfold look at hc ⊢;by_cases hl:l=d
 .rw[uX h];omega
 grind
theorem zeq{c:List IV}(h:j≠i)(hc:look d ah (bI vis n0 (aa.set i .gone)) l j=some (.cells c)):look d ah (bI vis n0 aa) l j=some (.cells c):=by
 unfold look at hc ⊢;by_cases hl:l=d
 .rw[uX h]at hc;omega
 grind
theorem Xz{fj fi:List aP->List aP->jI}{sj si:Option Nat}{vj vi:List Nat}(hj:∀{oV aa e v bJ},fj oV aa=some (e,v,bJ)->mZ d ah fj (sj.map (n0+·)) oV aa e v bJ)
  (hi:∀{oV aa e v bJ},fi oV aa=some (e,v,bJ)->mZ d ah fi (si.map (n0+·)) oV aa e v bJ) (c1:∀ s,sj=some s->vi.contains s=false) (c2:∀ s,si=some s->vj.contains s=false)
  (c3:∀ s,sj=some s->si≠some s) (h1:fj (bI vj n0 aa) aa=some (ej,xj,bJ)) (h2:fi (bI vi n0 bJ) bJ=some (ei,xi,rW)) (hc:comm ej ei=true) :
  ∃ Oq,fi (bI vi n0 aa) aa=some (ei,xi,Oq)/\fj (bI vj n0 Oq) Oq=some (ej,xj,rW):=by
 have e1:=hj h1
 have e2:=hi h2
 by_cases hpj:ej=.p
 .subst hpj
  let⟨rfl,g⟩:=e1
  grind
 by_cases hpi:ei=.p
 .subst hpi
  let⟨rfl,g⟩:=e2
  grind
 have VE:∀{s':Nat},sj.map (n0+·)=some s'->∃ s,sj=some s/\s'=n0+s:=fun h=>by let⟨s,hs,he⟩:=map_some h;grind
 have HA:∀{s':Nat},si.map (n0+·)=some s'->∃ s,si=some s/\s'=n0+s:=fun h=>by let⟨s,hs,he⟩:=map_some h;grind
 cases ej with
 |p=>grind
 |r =>
  let⟨rfl,g⟩:=e1
  cases ei with
  |p=>grind
  |r=>obtain⟨rfl,_⟩:=e2;grind
  |rl l i o n=>obtain⟨rfl,_⟩:=e2;grind
  |a =>
   exact xcg
  |w l i o n=>simp[comm]at hc
  |k i s=>simp[comm]at hc
  |x=>simp[comm]at hc
 |rl l i o n =>
  let⟨rfl,c,hc1,g⟩:=e1
  cases ei with
  |p=>grind
  |r=>obtain⟨rfl,_⟩:=e2;grind
  |rl l i o n=>obtain⟨rfl,_⟩:=e2;grind
  |a =>
   exact xcg
  |w l' i' o' n' =>
   obtain⟨rfl,c2',xs,q1,rfl,q3,rfl,q5⟩:=e2
   have hne:(l==l'&&i==i')=false∨o+n<=o'∨o'+xs.length<=o:=by
    exact xdj
   obtain⟨c',EM,hag⟩:=CM (n:=n) hc1 q1 q3 hne
   grind
  |k i' s' =>
   obtain⟨q1,O,rfl⟩:=e2
   obtain⟨s,hs,rfl⟩:=HA q1
   refine⟨_,h2,g _ _ c ?_ (fun _ _ _=>rfl)⟩
   rw[Ze (c2 s hs)]
   exact zep (by simpa[comm]using hc) hc1
  |x=>simp[comm]at hc
 |a =>
  obtain⟨s',O,q1,q2,rfl,q4⟩:=e1
  obtain⟨s,hs,rfl⟩:=VE q1
  cases ei with
  |p=>grind
  |r =>
   obtain⟨rfl,g⟩:=e2
   rw[Ze (c1 s hs)]at g
   grind
  |rl l i o n =>
   obtain⟨rfl,c,hc1,g⟩:=e2
   rw[Ze (c1 s hs)]at hc1
   grind
  |a =>
   obtain⟨s2',O2,r1,r2,rfl,r4⟩:=e2
   obtain⟨s2,hs2,rfl⟩:=HA r1
   rw[Ze (c1 s hs)]at r4
   have hne:s≠s2:=fun h=>c3 s hs (h▸hs2)
   have ae0:n0+s≠n0+s2:=Z
   rw[EV ae0]at r2
   refine⟨_,r4 _ r2,?_⟩
   rw[Ze (c2 s2 hs2),List.set_comm _ _ ae0]
   grind
  |w l i o n=>simp[comm]at hc
  |k i s=>simp[comm]at hc
  |x=>simp[comm]at hc
 |w l i o n =>
  cases ei with
  |p=>grind
  |rl l' i' o' n' =>
   obtain⟨rfl,c2',xs,q1,rfl,q3,rfl,q5⟩:=e1
   obtain⟨rfl,c,hc1,g⟩:=e2
   have hne:(l'==l&&i'==i)=false∨o'+n'<=o∨o+xs.length<=o':=by
    exact xdj
   obtain⟨c',EM,hag⟩:=xI (n:=n') hc1 q1 q3 hne
   grind
  |_=>simp[comm]at hc
 |k i s' =>
  obtain⟨q1,O,rfl⟩:=e1
  obtain⟨s,hs,rfl⟩:=VE q1
  cases ei with
  |p=>grind
  |rl l i2 o n =>
   obtain⟨rfl,c,hc1,g⟩:=e2
   rw[Ze (c1 s hs)]at hc1
   exact⟨_,g _ _ c (zeq (by simpa[comm]using hc) hc1) (fun _ _ _=>rfl),h1⟩
  |_=>simp[comm]at hc
 |x=>cases ei<;>first|exact absurd rfl hpi|simp[comm]at hc
structure vR(oj oi:cg):Prop where
 apart:AX oj oi=true
 c1:∀ s,oj.op.oU=some s->oi.vis.contains s=false
 c2:∀ s,oi.op.oU=some s->oj.vis.contains s=false
 c3:∀ s,oj.op.oU=some s->oi.op.oU≠some s
theorem Ic:(put t dst v).length=t.length:=by
 cases dst with
 |none=>rfl
 |some i=>rw[ye,Vv]
theorem uF{l:List Nat}(h:∀ x,dst=some x->x ∉ l):fO t (put t dst v) l:=fun i hi=>by
 cases dst with
 |none=>rfl
 |some x =>
  rw[ye,yc,yc,EB,EB,EV]
  grind
theorem put_comm{d1 d2:Option Nat}{v1 v2:IV}(h:∀ x,d1=some x->d2≠some x):put (put t d1 v1) d2 v2=put (put t d2 v2) d1 v1:=by
 cases d1 with
 |none=>rfl
 |some x =>
  cases d2 with
  |none=>rfl
  |some y =>
   rw[ye,ye,ye,ye,List.set_comm]
   grind
theorem vR.apart'(h:vR oj oi):(∀ x,oj.dst=some x->x ∉ oi.reads/\oi.dst≠some x)/\∀ x,oi.dst=some x->x ∉ oj.reads:=by have ha:=h.apart;unfold AX at ha;grind
theorem abk(hC:qX C){st st2:St}(hl:vR oj oi)(h1:gW C d ah true n0 oj st=some (ej,st1))(h2:gW C d ah true n0 oi st1=some (ei,st2))(hc:comm ej ei=true) :
  ∃ aef,gW C d ah true n0 oi st=some (ei,aef)/\gW C d ah true n0 oj aef=some (ej,st2):=by
 let⟨a1,a2⟩:=hl.apart'
 rw[za8]at h1 h2
 let⟨⟨e1,v1,o1⟩,g1,k1⟩:=map_some h1
 cases k1
 let⟨⟨e2,v2,o2⟩,g2,k2⟩:=map_some h2
 cases k2
 have ag:∀ oV o,fR C d ah n0 oi (put st.t oj.dst v1) oV o=fR C d ah n0 oi st.t oV o:=fun oV o =>
  (Dy (uF fun x hx=>(a1 x hx).1) Ic.symm).symm
 rw[ag]at g2
 let⟨o1',r1,r2⟩:=Xz (fun h=>PT hC h) (fun h=>PT hC h) hl.c1 hl.c2 hl.c3 g1 g2 hc
 refine⟨⟨put st.t oi.dst v2,o1'⟩,?_,?_⟩
 .rw[za8]
  grind
 .rw[za8]
  simp only[if_true]
  rw[←Dy (uF a2) Ic.symm,r2]
  simp only[iJ,iw,vT,Vn]
  rw[put_comm fun x hx=>(a1 x hx).2]
end
inductive tW(C:Call)(d:Nat)(ah:bq)(n0:Nat)(l:List cg)(es:List dI):List Nat->St->St->Prop where
 |nil (st:St):tW C d ah n0 l es [] st st
 |cons {i:Nat} {is:List Nat} {o:cg} {e:dI} {st st1 st2:St} (ho:l[i]?=some o) (he:es[i]?=some e) (hs:gW C d ah true n0 o st=some (e,st1)) (hr:tW C d ah n0 l es is st1 st2):tW C d ah n0 l es (i::is) st st2
section
variable {l:List cg} {es:List dI}
theorem tW.front(hC:qX C){i:Nat}{post:List Nat}:∀{pre:List Nat}{st st2:St},(∀ j∈pre,∀(oj oi:cg)(ej ei:dI),l[j]?=some oj->l[i]?=some oi->es[j]?=some ej->es[i]?=some ei->vR oj oi/\comm ej ei=true)->tW C d ah n0 l es (pre++i::post) st st2->tW C d ah n0 l es (i::(pre++post)) st st2
 |[],st,st2,_,h=>h
 |j::pre,st,st2,hp,h=>by
  cases h with
  |cons ho he hs hr =>
   cases(tW.front hC (fun k hk=>hp k (tj _ hk)) hr)with
   |cons EK he2 hs2 hr2 =>
    let⟨hl,hc⟩:=hp j (qj ..) _ _ _ _ ho EK he he2
    let⟨st',q1,q2⟩:=abk hC hl hs hs2 hc
    exact .cons EK he2 q1 (.cons ho he q2 hr2)
end
end
end Go.Proofs.YtjibdelmjcenhaaGreatDoor
