/-
  A part of the proof: the law in the model.
-/
import Derived.Lib.OthersKept
import Derived.WalkSmall
import Derived.Shelf.Small.Bits
import Derived.Shelf.Small.Wraps
import Derived.Shelf.Strconv.Itoa0
import Derived.Shelf.Strings.Search1
import Derived.Shelf.Strings.Search2
import Derived.Shelf.Strings.Search3
import Derived.Shelf.LaysM
import Derived.Shelf.Strings.Shaped
import Derived.Shelf.Sort.Plain
import Derived.Shelf.Slices.Turned
import Derived.Shelf.Slices.In.SortNone
import Derived.Ground.SlsfProg
import Derived.Shelf.SlSortCmp.Insertion
import Derived.Shelf.SlSortCmp.SiftDown1
import Derived.Shelf.SlSortCmp.HeapSort1
import Derived.Shelf.SlSortCmp.Insertion1
import Derived.Shelf.SlSortCmp.Median1
import Derived.Shelf.SlSortCmp.Pivot1
import Derived.Shelf.SlSortCmp.ReverseRange1
import Derived.Shelf.SlSortCmp.PartialInsertion1
import Derived.Shelf.SlSortCmp.PartitionEqual1
import Derived.Shelf.SlSortCmp.Partition1
import Derived.Shelf.SlSortCmp.Pdq1
import Derived.Shelf.SlSortCmp.Whole1
import Derived.Shelf.SlSortCmp.NoneTotal
import Derived.Test.YtjibdelmjcenhaaGreatDoorProg
import Derived.Lib.TrimUEq
import Derived.Laws.IdiomStrings
import Derived.Deep.RegionHeld3
import Derived.RangeFuncNested
import Derived.RangeFuncBound
import Derived.RangeFuncCalls
import Derived.RangeFuncLeaves
import Derived.RangeFuncFrom
import Derived.Shelf.Abstract
import Derived.Shelf.RegionOpen
import Derived.OwnWalkIn
import Derived.TacticsInMore
import Derived.LoopNIn
import Derived.LoopIn
import Derived.Laws.EntriesVeiled
import Derived.Deep.DeepCutAuto
import Derived.RegionTactic
import Derived.Deep.RegionWith
import Derived.Lib.AppendZerosOnto
import Derived.Lib.SliceRun
import Derived.Lib.Walk
import Derived.Laws.AppendOwnNone
import Derived.Lib.RowBridge
import Derived.Lib.IndexMore
import Derived.Lib.Small
import Derived.WalkMore
import Derived.Ground.NamesProg
import Derived.Tactics
import Derived.Test.YtjibdelmjcenhaaGreatDoorPEa
import Derived.Test.YtjibdelmjcenhaaGreatDoorPEb
import Derived.Test.YtjibdelmjcenhaaGreatDoorPEc
import Derived.Test.YtjibdelmjcenhaaGreatDoorPEd
import Derived.Test.YtjibdelmjcenhaaGreatDoorPEe
set_option linter.unusedVariables false
set_option linter.unusedSimpArgs false
set_option linter.unusedSectionVars false
set_option linter.defProp false
set_option maxRecDepth 1000000
set_option maxHeartbeats 3200000
open Nat renaming reduceLT → Xa, reduceAdd → Xb, reduceMul → Xc, reduceLeDiff → Xd, reduceEqDiff → Xe
open Go.Proofs.Tryz
noncomputable section
namespace Go.Proofs.YtjibdelmjcenhaaGreatDoor
open Go Go.RowKit
def oh(a:jl):Int×aR 1 aK×List (aR 1 aK):=(a.tw,a.oc,a.ic)
def pQ(a:jl):Int×aR 1 aK:=(a.tw,a.oc)
theorem zgf{ins ins':Nat->Bool}{tw VD:Nat->Int}:∀ n,(∀ i,i<n->ins i=ins' i/\tw i=VD i)->iq ins tw n=iq ins' VD n
 |0,_=>rfl
 |n+1,h=>by
  let⟨h1,h2⟩:=h n Z;show(if (ins n&&(decide (iq ins tw n<0)||decide (tw n<tw (iq ins tw n).toNat)))=true then(n:Int)else iq ins tw n)=(if (ins' n&&(decide (iq ins' VD n<0)||decide (VD n<VD (iq ins' VD n).toNat)))=true then(n:Int)else iq ins' VD n)
  rw[(zgf n fun i hi=>h i Z),h1,h2];have hle:=zad (ins:=ins') (tw:=VD) n;grind
variable {A A':List jl}{q:Pt}
theorem vh{p:Pn}(h:A.map pQ=A'.map pQ):tQ p A q=tQ p A' q:=by
 have hl:A.length=A'.length:=by have:=dL List.length h;grind
 have hg:∀ i,(A[i]?).map pQ=(A'[i]?).map pQ:=fun i=>by rw[←qn,←qn,h]
 have h1:∀ i,(A[i]?).map (fun a:jl=>a.oc.l)=(A'[i]?).map (fun a:jl=>a.oc.l):=fun i=>by have:=dL (Option.map fun x:Int×aR 1 aK=>x.2.l) (hg i);rw[J4,J4]at this;exact this
 have h2:∀ i,(A[i]?).map jl.tw=(A'[i]?).map jl.tw:=fun i=>by have:=dL (Option.map fun x:Int×aR 1 aK=>x.1) (hg i);rw[J4,J4]at this;exact this
 unfold tQ;grind
variable {a:jl}{k:Nat}
theorem SK{MU:IV}{al2:List Int}(ha:A[k]?=some a):(A.set k { a with av:=MU,al:=al2 }).map oh=A.map oh:=by
 obtain⟨hl,rfl⟩:=ew.1 ha;exact xd7
theorem SM(h:A.map oh=A'.map oh):A.map pQ=A'.map pQ:=by have:=dL (List.map fun x:Int×aR 1 aK×List (aR 1 aK)=>(x.1,x.2.1)) h;rw[MV,MV]at this;exact this
def nW(T:aR 1 aK->Int)(l:List (aR 1 aK))(A:List jl)(rc:List (aR 1 aK)):Prop:=A.map oh=(0,kV,[])::(l.filter fun c=>decide (0<T c)).map (fun c=>(T c,c,[]))/\rc=l.filter fun c=>!decide (0<T c)
variable {T:aR 1 aK->Int}
def nW.zero:nW T [] [⟨0,kV,.nilsl,[],.nilsl,[]⟩] []:=⟨rfl,rfl⟩
variable {l rc:List (aR 1 aK)}
theorem nW.inner(h:nW T l A rc){c:aR 1 aK}(hc:¬ 0<T c):nW T (l++[c]) A (rc++[c]):=by unfold nW;rw[MY,MY,h.1,h.2];grind
theorem nW.outer(h:nW T l A rc){c:aR 1 aK}(hc:0<T c):nW T (l++[c]) (A++[⟨T c,c,.nilsl,[],.nilsl,[]⟩]) rc:=by unfold nW;rw[MY,MY,Hi,h.1,h.2];simp[hc,oh]
def Et(p:Pn)(A0:List jl)(l:List (aR 1 aK))(A:List jl):Prop:=A.map pQ=A0.map pQ/\∀ k a,A[k]?=some a->a.ic=l.filter fun c=>tQ p A0 (gH p c.l)==k
theorem nW.start{p:Pn}(h:nW T l A rc):Et p A [] A:=⟨rfl,fun k a ha=>by
 have hm:=og (show(A.map oh)[k]?=some (oh a) by grind);rw[h.1]at hm;rcases eG.1 hm with e|hm
 .exact dL (fun x=>x.2.2) e
 .obtain⟨c,_,e⟩:=kO.1 hm;exact (dL (fun x=>x.2.2) e).symm⟩
theorem Et.step{p:Pn}{A0:List jl}(h:Et p A0 l A){c:aR 1 aK}{MO:IV}(ha:A[k]?=some a)(hk:k=tQ p A (gH p c.l)):Et p A0 (l++[c]) (A.set k { a with iv:=MO,ic:=a.ic++[c] }):=by
 obtain⟨hl,_⟩:=ew.1 ha;rw[vh h.1]at hk;refine⟨?_,fun j x hx=>?_⟩
 .rw[←h.1];exact xd7
 .rw[MY];by_cases hj:k=j
  .subst hj;rw[vW hl]at hx;cases hx;rw[h.2 k a ha];grind
  .rw[EV hj]at hx;rw[h.2 j x hx];grind
structure JO(p:Pn)(As:List Ar):Prop where
 len:As.length=((bn p).filter fun c=>decide (0<jv p c)).length+1
 el:∀ i a,As[i]?=some a->(i=0->a.tw=0)/\a.oc.l=ocR ((bn p).filter fun c=>decide (0<jv p c)) i/\a.ic.l.map (·.l)=((bn p).filter fun c=>decide (jv p c<=0)&&jo p ((bn p).filter fun c=>decide (0<jv p c)) (gH p c)==i)
structure MC(p:Pn)(N:Net)(cs:List (aR 1 aK))(A:List jl):Prop where
 shape:A.map pQ=(0,kV)::(cs.filter fun c=>decide (0<N.tu c.l)).map (fun c=>(N.tu c.l,c))
 inner:∀ k a,A[k]?=some a->a.ic=(cs.filter fun c=>!decide (0<N.tu c.l)).filter fun c=>tQ p A (gH p c.l)==k
variable {cs:List (aR 1 aK)}
theorem MC.of{p:Pn}{N:Net}{A1 A2 A3:List jl}(h1:nW (fun c=>N.tu c.l) cs A1 rc)(h2:Et p A1 rc A2)(h3:A3.map oh=A2.map oh):MC p N cs A3:=by
 have e1:A3.map pQ=A1.map pQ:=(SM h3).trans h2.1;have e2:A1.map pQ=(0,kV)::(cs.filter fun c=>decide (0<N.tu c.l)).map (fun c=>(N.tu c.l,c)):=by have:=dL (List.map fun x:Int×aR 1 aK×List (aR 1 aK)=>(x.1,x.2.1)) h1.1;rw[MV,mQ,MV]at this;exact this
 refine⟨e1.trans e2,fun k a ha=>?_⟩;have hm:(A2.map oh)[k]?=some (oh a):=by grind
 rw[qn]at hm;cases hk:A2[k]? with
 |none=>grind
 |some b =>
  rw[hk]at hm
  have hb:b.ic=a.ic:=dL (fun x:Int×aR 1 aK×List (aR 1 aK)=>x.2.2) (s6 hm)
  rw[←hb,h2.2 k b hk,h1.2]
  simp[vh e1]
theorem ZW{I γ:Type}(f:I->γ)(q:γ->Bool):∀ l:List I,(l.filter fun x=>q (f x)).map f=(l.map f).filter q
 |[]=>rfl
 |x::l=>by
  rw[mQ,MZ,MZ];split
  .rw[mQ,ZW f q l]
  .exact ZW f q l
variable {As:List Ar}
theorem MC.af9{p:Pn}(hg:aX p)(hv:∀ a∈p.az.l,a.via.l.length<=900)(hal:p.az.l.length<=200)(hcs:cs.map (·.l)=bn p)(h:MC p hg.eH cs A)(hl:As.length=A.length)(hq:∀(i:Nat)(a:jl),A[i]?=some a->∃ a':Ar,As[i]?=some a'/\a'.oc=a.oc/\a'.ic.l=a.ic/\a'.tw=a.tw):JO p As:=by
 have EJ:∀ c∈cs,hg.eH.tu c.l=jv p c.l:=fun c hc=>(hg.Xu hv hal (by grind)).symm;have hos:(cs.filter fun c=>decide (0<hg.eH.tu c.l)).map (·.l)=(bn p).filter fun c=>decide (0<jv p c):=by rw[←hcs,←ZW (fun c:aR 1 aK=>c.l) (fun c=>decide (0<jv p c))];congr 1;exact List.filter_congr fun c hc=>by grind
 have hlen:A.length=((bn p).filter fun c=>decide (0<jv p c)).length+1:=by have:=dL List.length h.shape;grind
 have gU:∀ i a,A[i]?=some a->(i=0->a.tw=0)/\a.oc.l=ocR ((bn p).filter fun c=>decide (0<jv p c)) i/\∀ j,i=j+1->a.tw=jv p ((((bn p).filter fun c=>decide (0<jv p c))[j]?).getD []):=fun i a ha=>by
  have hm:(A.map pQ)[i]?=some (pQ a):=by grind
  rw[h.shape]at hm;rcases i with -|j
  .have e:=s6 hm;have e2:a.oc=kV:=(dL Prod.snd e).symm;exact⟨fun _=>(dL Prod.fst e).symm,by rw[e2];rfl,fun j hj=>by omega⟩
  .rw[rG,qn]at hm;cases hc:(cs.filter fun c=>decide (0<hg.eH.tu c.l))[j]? with
   |none=>grind
   |some c =>
    rw[hc]at hm
    have e:=s6 hm
    have e1:a.tw=hg.eH.tu c.l:=(dL Prod.fst e).symm
    have e2:a.oc=c:=(dL Prod.snd e).symm
    have o8:c∈cs:=(EP.1 (og hc)).1
    have hj:((bn p).filter fun c=>decide (0<jv p c))[j]?=some c.l:=by grind
    refine⟨fun h=>by omega,?_,fun k hk=>?_⟩
    .show a.oc.l=(((bn p).filter fun c=>decide (0<jv p c))[j]?).getD []
     grind
    grind
 have R3:∀ q,tQ p A q=jo p ((bn p).filter fun c=>decide (0<jv p c)) q:=fun q=>by
  unfold tQ jo Ve;rw[hlen,zme];congr 2;refine zgf _ fun i hi=>?_;have hx:A[i+1]?=some A[i+1]:=dw Z;obtain⟨_,g2,g3⟩:=gU (i+1) _ hx;have g3:=g3 i rfl;rw[hx];constructor
  .show cO p (A[i+1]).oc.l q=_;rw[g2];rfl
  grind
 refine⟨hl.trans hlen,fun i a' ha'=>?_⟩;have hi:i<A.length:=by grind
 have hx:A[i]?=some A[i]:=dw hi;let⟨a2,q1,q2,q3,q4⟩:=hq i _ hx;rw[ha']at q1;cases q1;obtain⟨g1,g2,_⟩:=gU i _ hx;refine⟨fun h0=>by omega,by grind,?_⟩;rw[q3,h.inner i _ hx,←hcs,←ZW (fun c:aR 1 aK=>c.l) (fun c=>decide (jv p c<=0)&&jo p (((cs.map fun c=>c.l)).filter fun c=>decide (0<jv p c)) (gH p c)==i),List.filter_filter];congr 1;refine List.filter_congr fun c hc=>?_;grind
def JQ(S:bX)(p:Pn)(m n:Nat)(U:List (aR 1 aK))(L:List (Int×aR 2 Pt.c))(q:Pt):Prop:=∀(A:List jl),A≠[]->A.length<=n->(∀ a∈A,a.oc∈kV::U)->∀ D ah aJ aa id b,aJ[b]?=some (.cells (A.flatMap iT)) ->
  aL aO S m D ah aJ aa id 191 [.cR (eD L) (eL mw L),.slM D b 0 A.length A.length 4 false,.agg q.c]=some (.r,.int .i64 (tQ p A q:Nat),aa)
variable {S:bX}
section
theorem Qm(hS:bk S)(T:aR 1 aK->Int){m D:Nat}{ah:bq}{K:eU}(p:Pn)(cs:aR 1 gp)(jM:cs.l.length<=65536)(hm:cs.l.length+20<=m)(mv:IV)(J0:aS)(B0:Nat->Nat)(ru:IV)(A0:List jl)(h0:iP D cs.l 0 0 0 J0 B0 ru A0 .nilsl [])(h1:nW T [] A0 [])
  (EJ:∀ c∈cs.l,∀ d ah aJ aa id,aL aO S m d ah aJ aa id 190 [.agg p.c,c.v]=some (.r,.int .i64 (T c),aa))
  (t:List IV) (af:aN 110 t [(1,cs.v),(2,mv),(3,.ptrM D 0 0),(7,ru),(8,.nilsl)])
  (hK:∀ t' J B lv A rv rc,iP D cs.l cs.l.length 0 0 J B lv A rv rc->nW T cs.l A rc->aN 110 t' [(2,mv),(3,.ptrM D 0 0),(7,lv),(8,rv)]->K .normal ⟨t',p.o::J⟩) :
  Ex (aL aO S m) D ah m (i155.body.sub [1,1,1,0]) K ⟨t,p.o::J0⟩:=by
 simp[za,zb]at af
 have Pm:=cs.eZ
 simp[i155,IC.sub,V0,seval,af]
 refine zm cs.l.length (fun i st=>∃(J:aS)(B:Nat->Nat)(lv:IV)(A:List jl)(rv:IV)(rc:List (aR 1 aK)),iP D cs.l i 0 0 J B lv A rv rc/\nW T (cs.l.take i) A rc/\st.aa=p.o::J/\aN 110 st.t [(2,mv),(3,.ptrM D 0 0),(7,lv),(8,rv),(21,cs.v),(22,iv (cs.l.length:Nat)),(23,iv i)]) Z ⟨J0,B0,ru,A0,.nilsl,[],h0,by grind,rfl,by simp[V0,seval,af,cZ]⟩ ?_
 clear af h0 h1
 rintro i ⟨t,aa⟩ KA hi ⟨J,B,lv,A,rv,rc,hD,hX,rfl,af⟩ bp bK bQ
 simp[za,zb,zf]at af
 by_cases h:i<cs.l.length
 .have hx:cs.l[i]?=some cs.l[i]:=dw h
  have hmem:=gQ h
  have hz:=EJ _ hmem
  generalize cs.l[i]=c at hx hmem hz
  have hXi:=fun hp=>hX.inner (c:=c) hp
  have hXo:=fun hp=>hX.outer (c:=c) hp
  rw[←(show cs.l.take (i+1)=cs.l.take i++[c] by rw[jh,hx];rfl)]at hXi hXo
  generalize T c=z at hz hXi hXo
  have hrd:bB (cs.l.flatMap gp) (i*1) 1=some [c.v]:=xc2
  have hw:=zt i
  simp[Pn.c]at hz
  have hlen:=hD.len
  have hrl:=hD.rl
  cases hp:decide (0<z)
  .obtain⟨e,rv2,J2,bz,_,cL,iN,kJ⟩:=yE (k0:=1) (Pre:=[p.o]) (n0:=J.length+1+1) (slot:=0) (k:=1) (R:=[.free,.free]) zx rfl hD.r (ys:=[c]) M (by grind) Z rfl xfz
   have bz:=bz (look D ah (p.o::(J++[.free,.free]))) (fun j x hj hx=>by simp[look,if_true];grind)
   simp[gu,fP,eT,jm,gp,fB,gq,gF,eB]at bz
   simp only[V0,seval,zc cs h,ez,rep,zh,zl,zq,ZA, *]
   refine bp Z _ ⟨J2,_,lv,A,rv2,rc++[c],⟨kJ Z hD.l,hD.ne,Z,cL,by grind,fun y hy=>?_,fun j a ha=>?_⟩,hXi (of_decide_eq_false hp),rfl,bS⟩
   .rcases qY.1 hy with hy|hy
    .exact hD.rU y hy
    grind
   .exact xet
  .obtain⟨e,qw,J2,bz,_,cL,iN,kJ⟩:=yE (k0:=1) (Pre:=[p.o]) (n0:=J.length+1+1) (slot:=1) (k:=2) (R:=[.free,.cells [.int .i64 z,c.v,.nilsl,.nilsl],.free]) yg rfl hD.l (ys:=[⟨z,c,.nilsl,[],.nilsl,[]⟩]) M (by grind) Z rfl xf5
   have bz:=bz (look D ah (p.o::(J++[.free,.cells [.int .i64 z,c.v,.nilsl,.nilsl],.free]))) (fun j x hj hx=>by simp[look,if_true];grind)
   simp[gu,fP,eT,jm,iT,fB,gq,gF,eB]at bz
   have R5:bW (look D ah (p.o::(J++[.free,.cells [.int .i64 z,c.v,.nilsl,.nilsl],.free]))) 4 (.slM D (J.length+1+1) 0 1 1 4 false)=some ([.int .i64 z,c.v,.nilsl,.nilsl],1):=by simp[bW,look,seg,zi]
   simp only[V0,seval,zc cs h,ez,rep,Y5,fZ,zh,zl,zq, *]
   refine bp Z _ ⟨J2,_,qw,_,rv,rc,⟨cL,M,by grind,kJ Z hD.r,Z,hD.rU,fun j a ha=>?_⟩,hXo (of_decide_eq_true hp),rfl,bS⟩
   by_cases hj:j<A.length
   .rw[pN hj]at ha
    exact xet
   .rw[q8 Z]at ha
    have hj0:j-A.length=0:=by grind
    rw[hj0]at ha
    cases ha
    exact⟨.inl ⟨rfl,rfl⟩,.inl ⟨rfl,rfl⟩,cI _,cI _,fun _ h=>by grind,fun _=>hmem,tj _ hmem⟩
 .simp[V0,seval,af,h]
  refine bK _ _ ?_
  simp[V0,seval]
  have hii:i=cs.l.length:=Z
  subst hii
  rw[rD]at hX
  exact hK _ _ _ _ _ _ _ hD hX bS
theorem Ql(hS:bk S){m D:Nat}{ah:bq}{K:eU}(p:Pn)(cs:aR 1 gp)(jM:cs.l.length<=65536)(hm:cs.l.length+20<=m)(L:List (Int×aR 2 Pt.c))(J0:aS)(B0:Nat->Nat)(lv:IV)(A0:List jl)(rv:IV)(rc:List (aR 1 aK))(h0:iP D cs.l cs.l.length 0 0 J0 B0 lv A0 rv rc)(h1:Et p A0 [] A0)
  (R3:∀ c∈cs.l,∃(y:Pt)(h:Int)(r:List Int),c.l=h::r/\(gR qv L (cW h)).l[0]?=some y/\y=gH p c.l/\JQ S p m (cs.l.length+1) cs.l L y)
  (t:List IV) (af:aN 110 t [(2,.cR (eD L) (eL mw L)),(3,.ptrM D 0 0),(7,lv),(8,rv)])
  (hK:∀ t' J B A,iP D cs.l cs.l.length cs.l.length 0 J B lv A rv rc->Et p A0 rc A->aN 110 t' [(2,.cR (eD L) (eL mw L)),(3,.ptrM D 0 0),(7,lv)]->K .normal ⟨t',p.o::J⟩) :
  Ex (aL aO S m) D ah m (i155.body.sub [1,1,1,1,0]) K ⟨t,p.o::J0⟩:=by
 simp[za,zb]at af
 have hrl:=h0.rl
 have acy:=fun aJ aa=>dH.len h0.r (D:=D) (ah:=ah) (aJ:=aJ) (aa:=aa)
 have aq:∀ z:Int,(if aT .i64 (0-z)>z then aT .i64 (0-z)else z)=cW z:=fun _=>rfl
 simp[i155,IC.sub,V0,seval,af,acy]
 refine zm rc.length (fun i st=>∃(J:aS)(B:Nat->Nat)(A:List jl),iP D cs.l cs.l.length i 0 J B lv A rv rc/\Et p A0 (rc.take i) A/\st.aa=p.o::J/\aN 110 st.t [(2,.cR (eD L) (eL mw L)),(3,.ptrM D 0 0),(7,lv),(43,rv),(44,iv (rc.length:Nat)),(45,iv i)]) Z ⟨J0,B0,A0,h0,by grind,rfl,by simp[V0,seval,af,cZ]⟩ ?_
 clear af h0 h1
 rintro i ⟨t,aa⟩ KA hi ⟨J,B,A,hD,hX,rfl,af⟩ bp bK bQ
 simp[za,zb,zf]at af
 by_cases h:i<rc.length
 .have hx:rc[i]?=some rc[i]:=dw h
  have hmem:=hD.rU _ (gQ h)
  generalize rc[i]=c at hx hmem
  let⟨y,hh,r,ae8,hy,hys,hfy⟩:=R3 c hmem
  generalize hpa:gR qv L (cW hh)=pa at hy
  obtain⟨br,hrv,hrb⟩:∃ br,rv=.slM D (1+br) 0 rc.length rc.length 1 false/\J[br]?=some (.cells (rc.flatMap gp)):=by
   rcases hD.r with⟨h1,_⟩|⟨b,_,h1,h2,_⟩
   .grind
   grind
  let⟨b,hlv,hb,hB⟩:=hD.blk
  have gr:∀ x:aP,(x::J)[1+br]?=some (.cells (rc.flatMap gp)):=fun x=>by grind
  have gl:∀(x:aP)(R:aS),(x::(J++R))[1+b]?=some (.cells (A.flatMap iT)):=fun x R=>by grind
  have hlA:A.length<=cs.l.length+1:=hD.len
  obtain⟨k,hk,hkf,hfind⟩:∃ k:Nat,k<A.length/\k=tQ p A y/\∀ id,aL aO S m D ah (p.o::(J++[.free])) (p.o::(J++[.free])) id 191 [.cR (eD L) (eL mw L),lv,.agg [.int .i64 y.x,.int .i64 y.y]]=some (.r,.int .i64 (k:Nat),p.o::(J++[.free])):=by have hc:=hfy A hD.ne hlA hD.oc D ah (p.o::(J++[.free])) (p.o::(J++[.free])) 0 (1+b) (gl _ _);refine⟨tQ p A y,PN hD.ne,rfl,fun id=>?_⟩;rw[hlv];simp[Pt.c,zf]at hc;rw[←hc];exact CH (hS _ _ M M M M) rfl rfl
  obtain⟨a,ha⟩:=fc (l:=A) (i:=k) hk
  have hX2:=fun MO=>hX.step (c:=c) (MO:=MO) ha (by grind)
  have pL:rc.take (i+1)=rc.take i++[c]:=by rw[jh,hx];rfl
  rw[←pL]at hX2
  let⟨g1,g2,g3,g4,g5,g6,g7⟩:=hD.el k a ha
  have hrd:bB (rc.flatMap gp) (i*1) 1=some [c.v]:=xc2
  have hra:bB (A.flatMap iT) (k*4+2) 1=some [a.iv]:=(AR ha Z).trans rfl
  have hw:=zt i
  have hir:∀ aa,cu aa 1 (.slM D (1+br) 0 rc.length rc.length 1 false) (.int .i64 (i:Int))=some (.p,.ptrM D (1+br) (i*1),aa):=fun aa=>by have:=zo (aa:=aa) (l:=D) (b:=1+br) (off:=0) (cap:=rc.length) (z:=1) (z':=1) (tight:=false) (k:=.i64) h;grind
  have hil:∀ aa,cu aa 4 (.slM D (1+b) 0 A.length A.length 4 false) (.int .i64 (k:Int))=some (.p,.ptrM D (1+b) (k*4),aa):=fun aa=>xan
  have hc0:0<c.l.length:=by grind
  have hic:∀ aa,cu aa 1 c.v (.int .i64 0)=some (.p,.ptrC (c.l.flatMap aK) (0*1),aa):=fun aa=>zc c (i:=0) hc0
  have hp0:0<pa.l.length:=(ew.1 hy).1
  have hip:∀ aa,cu aa 2 pa.v (.int .i64 0)=some (.p,.ptrC (pa.l.flatMap Pt.c) (0*2),aa):=fun aa=>zc pa (i:=0) hp0
  have hrc:bB (c.l.flatMap aK) (0*1) 1=some [.int .i64 hh]:=(zd (l:=c.l) (i:=0) (x:=hh) ze 0 1 (by grind) Z).trans rfl
  have hrp:bB (pa.l.flatMap Pt.c) (0*2) 2=some [.int .i64 y.x,.int .i64 y.y]:=xdy
  have Jm:∀(C:Call)(n0:Nat)(aJ aa:aS)(t:List IV)(a b:bD),ρ t a=.cR (eD L) (eL mw L)->ρ t b=.int .i64 (cW hh)->bY C D ah n0 aJ aa t (.lookup .nilsl (false,[1]) false a b)=some (.p,pa.v,aa):=fun C n0 aJ aa t a b h1 h2=>(YP (u:=mw) qv (cW hh) rfl h1 h2).trans (by rw[hpa];rfl)
  obtain⟨e,MO,J2,bz,_,cL,iN,kJ⟩:=yE (k0:=1) (Pre:=[p.o]) (n0:=J.length+1+1) (slot:=0) (k:=1) (R:=[.free,.free]) zx rfl g1 (ys:=[c]) M (by grind) Z rfl xfz
  have bz:=bz (look D ah (p.o::(J++[.free,.free]))) (fun j x hj hx=>by simp[look,if_true];grind)
  simp[gu,fP,eT,jm,gp,fB,gq,gF,eB]at bz
  have fE:J2[b]?=some (.cells (A.flatMap iT))/\Ci B (J.length+1) (2+2*k) b=0:=by
   exact xeh
  have pq:=hD.set hlv fE.1 fE.2 ha (a':={ a with iv:=MO,ic:=a.ic++[c] }) rfl (kJ Z hD.r) (m2:=i+1) (m3:=0) Z Z (fun j x hx hj=>by
   obtain⟨q1,q2,_⟩:=hD.el j x hx;grind) cL (kJ Z g2) (by grind) g4 (fun z hz=>by
   grind)
  have hwr:dS (A.flatMap iT) (k*4+2) [MO]=(A.set k { a with iv:=MO,ic:=a.ic++[c] }).flatMap iT:=y4 yg ha M rfl
  simp only[V0,seval,af,h,hrv,hir,gr,hrd,hic,hrc,aq,Jm]
  rw[hlv]at hfind
  simp only[V0,seval,af,hlv,hip,hrp,hfind,hil,(fun x u v=>gl x _:∀(x:aP)(u v:aP),(x::(J++[u,v]))[1+b]?=some (.cells (A.flatMap iT))),hra,rep,zh,zl,zq,ZA,bz,(fun x=>by grind:∀ x:aP,(x::J2)[1+b]?=some (.cells (A.flatMap iT))),(fun x y=>by grind:∀(x y:aP),(x::J2).set (1+b) y=x::J2.set b y),(show k*4+2+1<=(A.flatMap iT).length by rw[zj yg];omega),hwr,cL.rO,cL.cells,hw]
  exact bp Z _ ⟨_,_,_,pq,hX2 _,rfl,by simp[V0,seval,af,hlv,hrv]⟩
 .simp[V0,seval,af,h]
  refine bK _ _ ?_
  simp[V0,seval]
  rw[fT Z]at hX
  refine hK _ _ _ _ ⟨hD.l,hD.ne,hD.len,hD.r,hD.rl,hD.rU,fun j x hx=>by
   let⟨q1,q2,q3,q4⟩:=hD.el j x hx;grind⟩ hX (by simp [V0,sevalprocAttr,af])
theorem Gm(hS:bk S){m D:Nat}{ah:bq}{K:eU}(p:Pn)(hpa:p.az.l.length<=1000000)(hpn:p.ns.l.length<=1000000)(cs:aR 1 gp)(jM:cs.l.length<=65536)(hm:p.ns.l.length+p.az.l.length+20<=m)(L:List (Int×aR 2 Pt.c))(J0:aS)(B0:Nat->Nat)(lv:IV)(A0:List jl)(rv:IV)(rc:List (aR 1 aK))(h0:iP D cs.l cs.l.length cs.l.length 0 J0 B0 lv A0 rv rc)
  (R3:∀ n∈p.ns.l,JQ S p m (cs.l.length+1) cs.l L n.at')
  (t:List IV) (af:aN 110 t [(2,.cR (eD L) (eL mw L)),(3,.ptrM D 0 0),(7,lv)])
  (hK:∀ t' J B A,iP D cs.l cs.l.length cs.l.length p.ns.l.length J B lv A rv rc->A.map oh=A0.map oh->aN 110 t' [(7,lv)]->K .normal ⟨t',p.o::J⟩) :
  Ex (aL aO S m) D ah m (i155.body.sub [1,1,1,1,1,0]) K ⟨t,p.o::J0⟩:=by
 simp[za,zb]at af
 simp[i155,IC.sub,V0,seval,af]
 refine zm p.ns.l.length (fun i st=>∃(J:aS)(B:Nat->Nat)(A:List jl),iP D cs.l cs.l.length cs.l.length i J B lv A rv rc/\A.map oh=A0.map oh/\st.aa=p.o::J/\aN 110 st.t [(2,.cR (eD L) (eL mw L)),(3,.ptrM D 0 0),(7,lv),(79,p.ns.v),(80,iv (p.ns.l.length:Nat)),(81,iv i)]) Z ⟨J0,B0,A0,h0,rfl,rfl,by simp[V0,seval,af,cZ]⟩ ?_
 clear af h0
 rintro i ⟨t,aa⟩ KA hi ⟨J,B,A,hD,hX,rfl,af⟩ bp bK bQ
 simp[za,zb,zf]at af
 by_cases h:i<p.ns.l.length
 .have hx:p.ns.l[i]?=some p.ns.l[i]:=dw h
  have hfy:=R3 _ (gQ h)
  generalize p.ns.l[i]=nd at hx hfy
  have hrd:bB (p.ns.l.flatMap Nd.c) (i*3) 3=some [.int .i64 nd.id,.int .i64 nd.at'.x,.int .i64 nd.at'.y]:=xcn
  have hw:=zt i
  have cd:=Me hS p nd.id hpa m Z
  simp[Pn.c,zf]at cd
  cases hdz:(((mW p.az.l nd.id:Nat):Int)==0)
  .simp only[V0,seval,af,h,zc p.ns h,hrd,cd,hdz,hw]
   refine bp Z _ ⟨_,B,A,?_,hX,rfl,bS⟩
   have:=hD.more [.cells [.int .i64 nd.id,.int .i64 nd.at'.x,.int .i64 nd.at'.y],.free]
   exact ⟨this.l,this.ne,this.len,this.r,this.rl,this.rU,fun j x hx=>by
    let⟨q1,q2,q3,q4,q5⟩:=this.el j x hx;grind⟩
  .let⟨b,hlv,hb,hB⟩:=hD.blk
   have gl:∀(x:aP)(R:aS),(x::(J++R))[1+b]?=some (.cells (A.flatMap iT)):=fun x R=>by grind
   have th:=(ew.1 hb).1
   obtain⟨k,hk,hfind⟩:∃ k:Nat,k<A.length/\∀ id,aL aO S m D ah (p.o::(J++[.cells [.int .i64 nd.id,.int .i64 nd.at'.x,.int .i64 nd.at'.y],.free,.free])) (p.o::(J++[.cells [.int .i64 nd.id,.int .i64 nd.at'.x,.int .i64 nd.at'.y],.free,.free])) id 191 [.cR (eD L) (eL mw L),lv,.agg [.int .i64 nd.at'.x,.int .i64 nd.at'.y]]=some (.r,.int .i64 (k:Nat),p.o::(J++[.cells [.int .i64 nd.id,.int .i64 nd.at'.x,.int .i64 nd.at'.y],.free,.free])):=by have hc:=hfy A hD.ne hD.len hD.oc D ah (p.o::(J++[.cells [.int .i64 nd.id,.int .i64 nd.at'.x,.int .i64 nd.at'.y],.free,.free])) (p.o::(J++[.cells [.int .i64 nd.id,.int .i64 nd.at'.x,.int .i64 nd.at'.y],.free,.free])) 0 (1+b) (gl _ _);refine⟨tQ p A nd.at',(PN (p:=p) (q:=nd.at') hD.ne),fun id=>?_⟩;rw[hlv];simp[Pt.c,zf]at hc;rw[←hc];exact CH (hS _ _ M M M M) rfl rfl
   obtain⟨a,ha⟩:=fc (l:=A) (i:=k) hk
   let⟨g1,g2,g3,g4,g5,g6,g7⟩:=hD.el k a ha
   have hil:∀ aa,cu aa 4 (.slM D (1+b) 0 A.length A.length 4 false) (.int .i64 (k:Int))=some (.p,.ptrM D (1+b) (k*4),aa):=fun aa=>xan
   obtain⟨e,MU,J2,bz,hee,cL,iN,kJ⟩:=yE (k0:=1) (Pre:=[p.o]) (n0:=J.length+3+1) (slot:=0) (k:=3) (R:=[.cells [.int .i64 nd.id,.int .i64 nd.at'.x,.int .i64 nd.at'.y],.free,.free,.free]) ze rfl g2 (ys:=[nd.id]) M (by grind) Z rfl rfl
   have ae4:∀(j:Nat)(x:aP),j<J.length+3+1->(p.o::(J++[.cells [.int .i64 nd.id,.int .i64 nd.at'.x,.int .i64 nd.at'.y],.free,.free,.free]))[j]?=some x->(bI [] (J.length+3+1) (p.o::(J++[.cells [.int .i64 nd.id,.int .i64 nd.at'.x,.int .i64 nd.at'.y],.free,.free,.free])))[j]?=some x:=fun j x hj hx=>by rw[zu,hx];grind
   have bz:=bz (look D ah (bI [] (J.length+3+1) (p.o::(J++[.cells [.int .i64 nd.id,.int .i64 nd.at'.x,.int .i64 nd.at'.y],.free,.free,.free])))) (fun j x hj hx=>by simp[look,if_true];grind)
   simp[gu,fP,eT,jm,aK,zf,fB,gq,gF,eB]at bz
   have fE:J2[b]?=some (.cells (A.flatMap iT))/\Ci B (J.length+3) (3+2*k) b=0:=by
    exact xeh
   have pq:=hD.set hlv fE.1 fE.2 ha (a':={ a with av:=MU,al:=a.al++[nd.id] }) rfl (kJ Z hD.r) (m2:=cs.l.length) (m3:=i+1) Z Z (fun j x hx hj=>by
    obtain⟨q1,q2,_⟩:=hD.el j x hx;grind) (kJ Z g1) cL g3 (by grind) g5
   have hwr:dS (A.flatMap iT) (k*4+3) [MU]=(A.set k { a with av:=MU,al:=a.al++[nd.id] }).flatMap iT:=y4 yg ha M rfl
   rw[hlv]at hfind
   simp only[V0,seval,af,h,zc p.ns h,hrd,cd,hdz,hlv,hfind,hil,(ae4 (1+b) _ Z (gl _ _)),(ae4 (J.length+1) (.cells [.int .i64 nd.id,.int .i64 nd.at'.x,.int .i64 nd.at'.y]) Z M),((AR ha Z).trans rfl:bB (A.flatMap iT) (k*4+3) 1=some [a.av]),rep,zh,zl,zq,zw,bz,(fun x=>by grind:∀ x:aP,(x::J2)[1+b]?=some (.cells (A.flatMap iT))),(fun x y=>by grind:∀(x y:aP),(x::J2).set (1+b) y=x::J2.set b y),(show k*4+3+1<=(A.flatMap iT).length by rw[zj yg];omega),hwr,cL.rO,cL.cells]
   simp only[V0,seval,af,hw]
   exact bp Z _ ⟨_,_,_,pq,(fun MU=>(SK (MU:=MU) (al2:=a.al++[nd.id]) ha).trans hX) _,rfl,bS⟩
 .simp[V0,seval,af,h]
  refine bK _ _ ?_
  simp[V0,seval]
  refine hK _ _ _ _ ⟨hD.l,hD.ne,hD.len,hD.r,hD.rl,hD.rU,fun j x hx=>by
   let⟨q1,q2,q3,q4,q5⟩:=hD.el j x hx;grind⟩ hX bS
theorem DJ(hS:bk S)(p:Pn)(hg:aX p)(hv:∀ a∈p.az.l,a.via.l.length<=900)(gV:bL p)(hal:p.az.l.length<=200)(hpn:p.ns.l.length<=1000000)(cs:aR 1 gp)(hcs:cs.l.map (·.l)=bn p)(L:List (Int×aR 2 Pt.c))(hL:sY p L) :
  ∃ N,∀ m,N<=m->∀ d ah aJ aa id,∃ As:aR 4 kD,aL aO S m d ah aJ aa id 155 [.agg p.c,cs.v,.cR (eD L) (eL mw L)]=some (.r,As.v,aa)/\A9 cs.l As.l/\JO p As.l:=by
 have o8:∀ c∈cs.l,c.l∈bn p:=fun c hc=>by grind
 have hcd:∀ c∈cs.l,∀ z∈c.l,z∈aZ p:=fun c hc=>hg.Az (o8 c hc)
 have jM:cs.l.length<=65536:=by
  have h2:=yV (dV (dF p) (dQ p)) id (aZ p) [] [];have h3:(aZ p).length=2*p.az.l.length:=xcv
  rw[(show cs.l.length=(bn p).length by grind)];unfold bn;grind
 have EJ:∀ c∈cs.l,∃ N,∀ m,N<=m->∀ d ah aJ aa id,aL aO S m d ah aJ aa id 190 [.agg p.c,c.v]=some (.r,.int .i64 (hg.eH.tu c.l),aa):=fun c hc=>E2 hS p hg hv gV c (hcd c hc) (hg.pF hal c.l (o8 c hc)).1
 have ak:∀ c∈kV::cs.l,∀ z∈c.l,z∈aZ p:=fun c hc=>by
  rcases eG.1 hc with rfl|hc
  .exact fun z hz=>absurd hz gm
  grind
 have Wo:∀ q:Pt,q.near->∃ N,∀ m,N<=m->JQ S p m (cs.l.length+1) cs.l L q:=fun q hq=>by let⟨N,hN⟩:=Lv hS p hg (kV::cs.l) ak L hL q hq;exact⟨N+cs.l.length+1,fun m hm A hA hl hU' D ah aJ aa id b hb=>hN A m Z hA Z hU' D ah aJ aa id b hb⟩
 have hfc:∀ c∈cs.l,∃ N,∀ m,N<=m->∃(y:Pt)(h:Int)(r:List Int),c.l=h::r/\(gR qv L (cW h)).l[0]?=some y/\y=gH p c.l/\JQ S p m (cs.l.length+1) cs.l L y:=fun c hc=>by
  let⟨z,hz,e⟩:=aX.Cw (o8 c hc);obtain⟨h,r,h1⟩:∃ h r,c.l=h::r:=by
   cases sD:c.l with
   |nil=>exact absurd sD (hg.pF hal c.l (o8 c hc)).2.1
   |cons h r=>simp
  obtain⟨a,ha,aq,_,_,_,hpl⟩:=hg.p7 (hcd c hc h (by grind));have h2:(gR qv L (cW h)).l=bC p a:=by rw[aq];exact(hL a ha).trans (hg.nice.path ha).2
  have h3:gH p c.l=(cV p a.fr).at':=by unfold gH;rw[h1];show((dW p (cW h))[0]?).getD ⟨0,0⟩=_;rw[hpl];rfl
  let⟨N,hN⟩:=Wo (gH p c.l) (by rw[h3];exact Xn (hg.nice.OA _ (Zv (hg.nice.fr a ha)).1));exact⟨N,fun m hm=>⟨_,h,r,h1,by rw[h2,h3];rfl,rfl,hN m hm⟩⟩
 let⟨N1,EN⟩:=ED cs.l EJ
 let⟨N2,T0⟩:=ED cs.l hfc
 let⟨N3,hN3⟩:=ED p.ns.l (fun n hn=>Wo n.at' (Xn (hg.nice.OA n hn)))
 refine⟨N1+N2+N3+cs.l.length+p.ns.l.length+p.az.l.length+40,fun m hm d ah aJ aa id=>?_⟩
 obtain⟨m,rfl⟩:=gv m 6
 have main:∃ v,aL aO S (m+5+1) d ah aJ aa id 155 [.agg p.c,cs.v,.cR (eD L) (eL mw L)]=some (.r,v,aa)/\∃ As:aR 4 kD,v=As.v/\A9 cs.l As.l/\JO p As.l:=by
  refine ZK (i:=i155) (hS _ _ M M M M) rfl rfl (bP rfl) fun t af=>?_;simp[V2,Xb,i155,Pn.c]at af;generalize(fun l=>if l=d then aJ else ah l:bq)=bH
  suffices jc:∀ K:eU,(∀ t' J B lv A rv rc,iP (d+1) cs.l cs.l.length cs.l.length p.ns.l.length J B lv A rv rc->MC p hg.eH cs.l A->aN 110 t' [(6,lv)]->K .ret ⟨t',p.o::J⟩)->Ex (aL aO S (m+5)) (d+1) bH (m+5) i155.body K ⟨t,[]⟩from jc _ fun t' J B lv A rv rc hD hX ht=>by
   simp[za,zb]at ht;rw[y3];let⟨b,hlv,hb,hB⟩:=hD.blk;obtain⟨As,h1,h2,h3⟩:=D3 (A:=A) (f:=freeze (m+4) (d+1) (p.o::J)) (Q:=fun a a'=>a'.oc=a.oc/\a'.ic.l=a.ic/\a'.tw=a.tw) fun a ha=>by
    let⟨i,hi⟩:=rj ha;let⟨q1,q2,q3,q4,q5⟩:=hD.el i a hi;have f1:=ZT (Pre:=[p.o]) (n:=m+3) zx rfl (fun c x hx=>by
     simp[gp,eG,gm,gw]at hx;subst hx;exact (zP (fun a x hx=>by
      simp[aK,eG,gm,gw]at hx;subst hx;exact zp) c).le Z) Z q1
    have f2:=ZT (Pre:=[p.o]) (n:=m+3) ze rfl (fun c x hx=>by
     simp[aK,eG,gm,gw]at hx;subst hx;exact zp.le Z) Z q2
    simp[gu,fP]at f1 f2;have f3:freeze (m+4) (d+1) (p.o::J) a.oc.v=some a.oc.v:=zP (fun a x hx=>by
      simp[aK,eG,gm,gw]at hx;subst hx;exact zp) a.oc _ Z _ _
    refine⟨⟨a.tw,a.oc,bZ zx a.ic Z,bZ ze a.al Z⟩,⟨rfl,zM _ _ _,rfl⟩,?_⟩;have f0:freeze (m+4) (d+1) (p.o::J) (.int .i64 a.tw)=some (.int .i64 a.tw):=rfl;simp[iT,kD,mq,qi,f0,f1,f2,f3,nY,nZ,iD]
   have hne:As≠[]:=fun he=>hD.ne (by grind);have hlen:=hD.len;refine⟨lv,(bZ Zt As Z).v,by simp[i155,V0,seval,ht],?_,bZ Zt As Z,rfl,?_⟩
   .rw[hlv,zfj yg h3 (by grind)];rw[←h1];cases As with
    |nil=>grind
    |cons _ _=>rfl
   .rw[zM];refine⟨⟨hne,Z,fun i a' ha'=>?_⟩,hX.af9 hg hv hal hcs h1 fun i a ha=>h2 i a ha⟩;have hi:i<A.length:=by grind
    obtain⟨a2,hx,hq1,lQ,_⟩:=h2 i A[i] (dw hi);rw[ha']at hx;cases hx;obtain⟨_,_,q3,q4,q5,q6,q7⟩:=hD.el i _ (dw hi);grind
  intro K fin;rw[show i155.body=.seq (i155.body.sub [0]) (.seq (i155.body.sub [1,0]) (.seq (i155.body.sub [1,1,0]) (.seq (i155.body.sub [1,1,1,0]) (.seq (i155.body.sub [1,1,1,1,0]) (.seq (i155.body.sub [1,1,1,1,1,0]) (i155.body.sub [1,1,1,1,1,1]))))))from rfl];have hL1:=fun{K:eU} mv J0 B0 ru A0 h0 h1 EJ t af hK=>@Qm S hS (fun c=>hg.eH.tu c.l) (m+5) (d+1) bH K p cs jM Z mv J0 B0 ru A0 h0 h1 EJ t af hK;have hL2:=fun{K:eU} J0 B0 lv A0 rv rc h0 h1 R3 t af hK=>@Ql S hS (m+5) (d+1) bH K p cs jM Z L J0 B0 lv A0 rv rc h0 h1 R3 t af hK;have hL3:=fun{K:eU} J0 B0 lv A0 rv rc h0 R3 t af hK=>@Gm S hS (m+5) (d+1) bH K p Z hpn cs jM Z L J0 B0 lv A0 rv rc h0 R3 t af hK;generalize i155.body.sub [1,1,1,0]=T1 at hL1 ⊢;generalize i155.body.sub [1,1,1,1,0]=T2 at hL2 ⊢;generalize i155.body.sub [1,1,1,1,1,0]=T3 at hL3 ⊢;simp[i155,IC.sub,V0,seval,af,rep,Y5,fZ,dD];refine hL1 (.cR (eD L) (eL mw L)) [.cells [.int .i64 0,.nilsl,.nilsl,.nilsl]] (fun _=>0) (.slM (d+1) 1 0 1 1 4 false) [⟨0,kV,.nilsl,[],.nilsl,[]⟩] ⟨.inr ⟨0,M,rfl,rfl,rfl⟩,M,M,.inl ⟨rfl,rfl⟩,cI _,fun _ h=>by grind,fun i a ha=>?_⟩ nW.zero (fun c hc=>EN c hc (m+5) Z) _ bS fun t1 J1 B1 VZ A1 rv rc hD1 hX1 ht1=>?_
  .cases i with
   |succ i=>grind
   |zero =>
    simp[rH,iw]at ha
    subst ha
    exact⟨.inl ⟨rfl,rfl⟩,.inl ⟨rfl,rfl⟩,cI _,cI _,fun _ h=>by grind,fun h=>by omega,qj ..⟩
  simp[V0,seval];refine hL2 J1 B1 VZ A1 rv rc hD1 hX1.start (fun c hc=>T0 c hc (m+5) Z) t1 ht1 fun t2 J2 B2 A2 Wt hX2 ht2=>?_;simp[V0,seval];refine hL3 J2 B2 VZ A2 rv rc Wt (fun n hn=>hN3 n hn (m+5) Z) t2 ht2 fun t3 J3 B3 A3 Lo hX3 ht3=>?_;simp[za,zb]at ht3;simp[V0,seval,ht3];exact fin _ _ _ _ _ _ _ Lo (MC.of hX1 hX2 hX3) bS
 grind
end
variable {H:Type}
theorem G7{f g:H->Bool}:∀{l:List H},(∀ x∈l,f x=g x)->l.all f=l.all g
 |[],_=>rfl
 |x::l,h=>by grind
def iz(fs:List Int):List (Int×Bool):=fs.map fun k=>(k,true)
variable {fs:List Int}
def Kw:(iz fs).length=fs.length:=qE ..
theorem zgg{k:Int}:∀{fs:List Int},gR false (iz fs) k=fs.contains k
 |[]=>rfl
 |f::fs=>by have ih:=zgg (k:=k) (fs:=fs);unfold gR iz at ih ⊢;grind
variable {f:Int}
theorem KT(h:fs.contains f=false):mI (iz fs) f true=iz (fs++[f]):=by
 have hn:((iz fs).findIdx? fun kv=>f==kv.1)=none:=by rw[zkd];intro kv hkv;obtain⟨k,hk,rfl⟩:=kO.1 hkv;grind
 unfold mI;rw[hn];unfold iz;simp
def fcP(p:Pn):Option (List Int)->Bool
 |none=>false
 |some fs=>((fs.length:Int)==(p.fs.l.length:Int))
theorem Lw(hS:bk S){m D:Nat}{ah:bq}{K:eU}(p:Pn)(q:aR 1 gp)(hq:q.l.length<=1000000)(hm:q.l.length+200010<=m)(jM:∀ c∈q.l,c.l.length<=200000)(C1:∀ c∈q.l,∀ z∈c.l,∀ d ah aJ aa id,aL aO S m d ah aJ aa id 193 [.agg p.c,iv z]=some (.r,.int .i64 (eC p z),aa))
  (t:List IV) (kL:Int) (i n:Nat) (lv Sc:IV) (x1:aP) (J:aS)
  (af:aN 71 t [(2,.ptrM D 0 0),(4,lv),(6,.mapM D 1),(9,.int .i64 kL),(15,Sc),(16,iv n),(17,iv i),(40,q.v),(41,iv (q.l.length:Nat)),(42,.int .i64 0)])
  (hK:∀ t' R,aN 71 t' [(2,.ptrM D 0 0),(4,lv),(6,.mapM D 1),(9,.int .i64 kL),(15,Sc),(16,iv n),(17,iv i)]->(q.l.all fun c=>c.l.all fun z=>eC p z==kL)=true->K .normal ⟨t',p.o::x1::(J++R)⟩)
  (hR:∀ t' O,aN 71 t' [(4,.nilsl),(5,.bool false)]->(q.l.all fun c=>c.l.all fun z=>eC p z==kL)=false->K .ret ⟨t',O⟩) :
  Ex (aL aO S m) D ah m (i156.body.sub [1,1,0,1,0,0,1,1,0,0,1,1,1,0,1]) K ⟨t,p.o::x1::J⟩:=by
 simp[za,zb,zf]at af
 have RZ:=q.eZ
 simp[i156,IC.sub,V0,seval]
 refine zm q.l.length (fun k st=>∃(R:aS),((q.l.take k).all fun c=>c.l.all fun z=>eC p z==kL)=true/\st.aa=p.o::x1::(J++R)/\aN 71 st.t [(2,.ptrM D 0 0),(4,lv),(6,.mapM D 1),(9,.int .i64 kL),(15,Sc),(16,iv n),(17,iv i),(40,q.v),(41,iv (q.l.length:Nat)),(42,iv k)]) Z ⟨[],rfl,M,by simp[V0,seval,af,cZ]⟩ ?_
 clear af
 rintro k ⟨t,aa⟩ KA hk ⟨R,hA1,rfl,af⟩ bp bK bQ
 simp[za,zb,zf]at af
 by_cases h:k<q.l.length
 .have hx:q.l[k]?=some q.l[k]:=dw h
  have hc:=jM _ (gQ h)
  have o8:=gQ h
  have O3:=C1 _ (gQ h)
  generalize q.l[k]=c at hx hc O3 o8
  have hrd:bB (q.l.flatMap gp) (k*1) 1=some [c.v]:=xc2
  have Pm:=c.eZ
  simp only[V0,seval,af,h,zc q h,hrd]
  refine zm c.l.length (fun l st=>∃(R:aS),((c.l.take l).all fun z=>eC p z==kL)=true/\st.aa=p.o::x1::(J++R)/\aN 71 st.t [(2,.ptrM D 0 0),(4,lv),(6,.mapM D 1),(9,.int .i64 kL),(15,Sc),(16,iv n),(17,iv i),(40,q.v),(41,iv (q.l.length:Nat)),(42,iv k),(46,c.v),(47,iv (c.l.length:Nat)),(48,iv l)]) Z ⟨R,rfl,rfl,by simp[V0,seval,af,cZ]⟩ ?_
  clear af
  rintro l ⟨t,aa⟩ KB hl ⟨R,hA2,rfl,af⟩ gJ jL kP
  simp[za,zb,zf]at af
  by_cases h2:l<c.l.length
  .have hx2:c.l[l]?=some c.l[l]:=dw h2
   have hz:=O3 _ (gQ h2)
   have hzm:=gQ h2
   generalize c.l[l]=z at hx2 hz hzm
   have C2:bB (c.l.flatMap aK) (l*1) 1=some [.int .i64 z]:=(zd ze 0 1 hx2 Z).trans rfl
   have RX:=zt l
   simp[Pn.c,zf]at hz
   cases hb:(eC p z != kL)
   .simp only[V0,seval,zc c h2,hb, *]
    exact gJ Z _ ⟨R++[.free],by rw[jh,hx2,oP,Vt,hA2];grind,rfl,bS⟩
   .simp only[V0,seval,af,h2,zc c h2,C2,hz,hb]
    refine kP _ ?_
    simp only[V0,seval]
    refine bQ _ ?_
    simp only[V0,seval]
    refine hR _ _ bS ?_
    grind
  .simp[V0,seval,af,h2]
   refine jL _ _ ?_
   simp only[V0,seval,af,(zt k)]
   exact bp Z _ ⟨R,by rw[jh,hx,oP,Vt,hA1];grind,rfl,bS⟩
 .simp[V0,seval,af,h]
  refine bK _ _ ?_
  simp[V0,seval]
  rw[fT Z]at hA1
  exact hK _ _ bS hA1
theorem PO(hS:bk S){m D:Nat}{ah:bq}{K:eU}(p:Pn)(a:Ar)(q:aR 1 gp)(hq:q.l.length<=1000000)(hm:q.l.length+200010<=m)(jM:∀ c∈q.l,c.l.length<=200000)(qy:∀ d ah aJ aa id,aL aO S m d ah aJ aa id 194 [.agg (kD a)]=some (.r,q.v,aa))(C1:∀ c∈q.l,∀ z∈c.l,∀ d ah aJ aa id,aL aO S m d ah aJ aa id 193 [.agg p.c,iv z]=some (.r,.int .i64 (eC p z),aa))
  (t:List IV) (kL:Int) (i n ja:Nat) (lv Sc:IV) (x1:aP) (J:aS) (xs:List Int) (hO:bE aK 1 D 2 J lv xs) (hx:xs.length<=1000000) (hja:J[ja]?=some (.cells [.int .i64 a.tw,a.oc.v,a.ic.v,a.al.v]))
  (af:aN 71 t [(2,.ptrM D 0 0),(4,lv),(6,.mapM D 1),(8,.ptrM D (ja+1+1) 0),(9,.int .i64 kL),(15,Sc),(16,iv n),(17,iv i)])
  (hK:∀ t' cH J',bE aK 1 D 2 J' cH (xs++[kL])->aN 71 t' [(2,.ptrM D 0 0),(4,cH),(6,.mapM D 1),(15,Sc),(16,iv n),(17,iv i)]->(q.l.all fun c=>c.l.all fun z=>eC p z==kL)=true->K .normal ⟨t',p.o::x1::J'⟩)
  (hR:∀ t' O,aN 71 t' [(4,.nilsl),(5,.bool false)]->(q.l.all fun c=>c.l.all fun z=>eC p z==kL)=false->K .ret ⟨t',O⟩) :
  Ex (aL aO S m) D ah m (i156.body.sub [1,1,0,1,0,0,1,1,0,0,1,1,1]) K ⟨t,p.o::x1::J⟩:=by
 simp[za,zb,zf]at af
 rw[show i156.body.sub [1,1,0,1,0,0,1,1,0,0,1,1,1]=.seq (.seq (i156.body.sub [1,1,0,1,0,0,1,1,0,0,1,1,1,0,0]) (i156.body.sub [1,1,0,1,0,0,1,1,0,0,1,1,1,0,1])) (i156.body.sub [1,1,0,1,0,0,1,1,0,0,1,1,1,1])from rfl]
 have hI:=fun{K:eU} t lv x1 J af hK hR=>@Lw S hS m D ah K p q hq hm jM C1 t kL i n lv Sc x1 J af hK hR
 generalize i156.body.sub [1,1,0,1,0,0,1,1,0,0,1,1,1,0,1]=T at hI ⊢
 simp[kD]at qy
 simp[i156,IC.sub,V0,seval,af,(show(J++[aP.free])[ja]?=some (.cells [.int .i64 a.tw,a.oc.v,a.ic.v,a.al.v]) by grind),qy]
 refine hI _ lv _ _ bS (fun t' R ht hall=>?_) (fun t' O ht hall=>?_)
 .clear af
  simp[za,zb]at ht
  obtain⟨e,cH,J2,bz,cL⟩:=zI (Pre:=[p.o,x1]) (J:=J++[aP.free]++R) (n0:=(J++[aP.free]++R).length+1+1) (slot:=0) (k:=0) (ah:=ah) (R:=[.free]) ze ((hO.more [.free]).more R) (ys:=[kL]) M (by grind) (by grind) rfl rfl
  simp only[gu,fP,eT,jm,aK,zf,fB,gq,gF,eB,mo]at bz
  simp[V0,seval,ht,rep,zh,zl,zq,zw]
  simp[(show(J++.free::R).length=J.length+(R.length+1) by simp)]at bz
  simp[V0,seval,bz,ht]
  exact hK _ _ _ cL bS hall
 .simp[V0,seval]
  grind
theorem Ga(hS:bk S)(p:Pn)(gV:bL p)(U:List (aR 1 aK))(hU:U.length<=65536)(hUc:∀ c∈U,c.l.length<=200000)(ahs:∀ c∈U,c.l≠[])(hsR:∀ c∈U,∀ z∈c.l,eC p z=iy p z):∃ N,∀ As:aR 4 kD,A9 U As.l->(∀ a,As.l[0]?=some a->a.tw=0)->∀ m,N<=m->∀ d ah aJ aa id,∃(xs:aR 1 aK)(ok:Bool),aL aO S m d ah aJ aa id 156 [.agg p.c,As.v]=some (.r,.tuple [xs.v,.bool ok],aa)/\ok=fcP p (dN p 0 As.l []):=by
 have O3:∀ c∈kV::U,∃ N,∀ m,N<=m->∀ z∈c.l,∀ d ah aJ aa id,aL aO S m d ah aJ aa id 193 [.agg p.c,iv z]=some (.r,.int .i64 (eC p z),aa):=fun c _=>by have h1:∀ z∈c.l,∃ N,∀ m,N<=m->∀ d ah aJ aa id,aL aO S m d ah aJ aa id 193 [.agg p.c,iv z]=some (.r,.int .i64 (eC p z),aa):=fun z _=>QV hS p z gV;let⟨N,hN⟩:=ED c.l h1;exact⟨N,fun m hm z hz=>hN z hz m hm⟩
 let⟨N1,EN⟩:=ED (kV::U) O3;refine⟨N1+400010,fun As hA hA0 m hm d ah aJ aa id=>?_⟩;have T0:∀ a∈As.l,∀ m,10<=m->∃ q:aR 1 gp,q.l=a.oc::a.ic.l/\∀ d ah aJ aa id,aL aO S m d ah aJ aa id 194 [.agg (kD a)]=some (.r,q.v,aa):=fun a ha m hm=>by let⟨i,hi⟩:=rj ha;obtain⟨q,h1,h2⟩:=G9 hS a (by have:=(hA.2.2 i a hi).1;omega);exact⟨q,h1,h2 m hm⟩
 have hAl:=hA.2.1;obtain⟨m,rfl⟩:=gv m 6;have main:∃ v,aL aO S (m+5+1) d ah aJ aa id 156 [.agg p.c,As.v]=some (.r,v,aa)/\∃(xs:aR 1 aK)(ok:Bool),v=.tuple [xs.v,.bool ok]/\ok=fcP p (dN p 0 As.l []):=by
  refine ZK (i:=i156) (hS _ _ M M M M) rfl rfl (bP rfl) fun t af=>?_;simp[V2,i156,Pn.c]at af;generalize(fun l=>if l=d then aJ else ah l:bq)=bH
  suffices jc:∀ K:eU,(∀ t' x0 x1 J lv xs ok,bE aK 1 (d+1) 2 J lv xs->xs.length<=1000000->ok=fcP p (dN p 0 As.l [])->aN 71 t' [(4,lv),(5,.bool ok)]->K .ret ⟨t',x0::x1::J⟩)->(∀ t' O,aN 71 t' [(4,.nilsl),(5,.bool false)]->dN p 0 As.l []=none->K .ret ⟨t',O⟩)->Ex (aL aO S (m+5)) (d+1) bH (m+5) i156.body K ⟨t,[]⟩ from jc _ (fun t' x0 x1 J lv xs ok hO hx hok ht=>by
   simp[za,zb]at ht;rw[y3];have hf:=yy (Pre:=[x0,x1]) (m:=m+4) ze (fun a x hx=>by
    simp[aK,eG,gm,gw]at hx;subst hx;exact zp) Z (show xs.length<9223372036854775808 by omega) hO
   refine⟨.tuple [lv,.bool ok],.tuple [(bZ ze xs Z).v,.bool ok],by simp[i156,V0,seval,ht],?_,_,ok,rfl,hok⟩;have h2:freeze (m+4) (d+1) (x0::x1::J) (.bool ok)=some (.bool ok):=rfl;simp[gu,fP]at hf;rw[show m+5=(m+4)+1 from rfl];unfold freeze;simp_all) (fun t' O ht hno=>by
   simp[za,zb]at ht;rw[y3];exact ⟨.tuple [.nilsl,.bool false],.tuple [kV.v,.bool false],by simp [i156,V0,sevalprocAttr,ht],rfl,kV,false,rfl,by rw [hno]; rfl⟩)
  intro K fin afh;have MR:=As.eZ;rw[show i156.body=.seq (i156.body.sub [0]) (.seq (i156.body.sub [1,0]) (.seq (.seq (i156.body.sub [1,1,0,0]) (.block 0 (.loop (.seq (i156.body.sub [1,1,0,1,0,0,0]) (.seq (i156.body.sub [1,1,0,1,0,0,1,0]) (.seq (.block 1 (.seq (i156.body.sub [1,1,0,1,0,0,1,1,0,0,0]) (.seq (i156.body.sub [1,1,0,1,0,0,1,1,0,0,1,0]) (.seq (i156.body.sub [1,1,0,1,0,0,1,1,0,0,1,1,0]) (i156.body.sub [1,1,0,1,0,0,1,1,0,0,1,1,1]))))) (i156.body.sub [1,1,0,1,0,0,1,1,1]))))))) (.seq (i156.body.sub [1,1,1,0]) (i156.body.sub [1,1,1,1]))))from rfl];have hT:=fun{K:eU} a q hq hm jM qy C1 t kL i n ja lv Sc x1 J xs hO hx hja af hK hR=>@PO S hS (m+5) (d+1) bH K p a q hq hm jM qy C1 t kL i n ja lv Sc x1 J xs hO hx hja af hK hR;generalize i156.body.sub [1,1,0,1,0,0,1,1,0,0,1,1,1]=T at hT ⊢;simp[i156,IC.sub,V0,seval,af];refine zm As.l.length (fun i st=>∃(lv:IV)(J:aS)(Ls:List (Int×Bool))(bs:List Nat)(ck:Nat)(xs:List Int),bE aK 1 (d+1) 2 J lv xs/\xs.length<=i/\(∃ fs:List Int,Ls=iz fs/\dN p i (As.l.drop i) fs=dN p 0 As.l [])/\st.aa=p.o::.map (eD Ls) (eL IV.bool Ls) bs ck::J/\aN 71 st.t [(2,.ptrM (d+1) 0 0),(4,lv),(6,.mapM (d+1) 1),(15,As.v),(16,iv (As.l.length:Nat)),(17,iv i)]) Z ⟨.nilsl,[],[],[],0,[],.inl ⟨rfl,rfl⟩,M,⟨[],rfl,by rfl⟩,rfl,by simp[V0,seval,af,cZ]⟩ ?_;clear af;rintro i ⟨t,aa⟩ KA hi ⟨lv,J,Ls,bs,ck,xs,hO,hxl,⟨fs,rfl,hG⟩,rfl,af⟩ bp bK bQ;simp[za,zb,zf]at af;by_cases h:i<As.l.length
  .have hx:As.l[i]?=some As.l[i]:=dw h;let⟨q,hq1,lQ⟩:=T0 _ (gQ h) (m+5) Z;rw[EU h]at hG;generalize As.l[i]=a at hx hq1 lQ hG;let⟨a1,a2,a3,a4⟩:=hA.2.2 i a hx;have hqU:∀ c∈q.l,c∈kV::U:=fun c hc=>by grind
   have hqc:∀ c∈q.l,c.l.length<=200000:=fun c hc=>by
    rcases eG.1 (hqU c hc)with rfl|h
    .decide
    grind
   have hqs:∀ c∈q.l,∀ z∈c.l,∀ d ah aJ aa id,aL aO S (m+5) d ah aJ aa id 193 [.agg p.c,iv z]=some (.r,.int .i64 (eC p z),aa):=fun c hc=>EN c (hqU c hc) (m+5) Z;have pz:q.l.length<=65537:=by grind
   have hrd:bB (As.l.flatMap kD) (i*4) 4=some [.int .i64 a.tw,a.oc.v,a.ic.v,a.al.v]:=(zd Zt 0 4 hx Z).trans rfl;have hw:=zt i;have hall:∀ kL,(q.l.all fun c=>c.l.all fun z=>eC p z==kL)=mS p { a with tw:=kL }:=fun kL=>by
    have e1:∀ c∈kV::U,(c.l.all fun z=>eC p z==kL)=dB p c.l kL:=fun c hc=>by
     rcases eG.1 hc with rfl|hc
     .rfl
     .exact G7 fun z hz=>by grind
    rw[hq1,oO,e1 a.oc a4];unfold mS;grind
   rw[zbv]at hG;cases hp:decide ((0:Int)<(i:Int))
   .have hi0:i=0:=by grind
    rw[(show j7 p i a=0 by rw[hi0];exact hA0 a (by grind)),decide_eq_false (show ¬ 0<i by omega),dZ,b9 M,b9 (show ¬ 0<i by omega)]at hG;simp only[V0,seval,af,h,zc As h,hrd,ez,hp];refine hT a q Z Z hqc lQ hqs _ 0 i As.l.length J.length lv As.v _ _ xs (hO.more _) Z M bS (fun t' cH J' uY ht hok=>?_) (fun t' O ht hok=>?_)
    .simp[za,zb,zf]at ht;simp only[V0,seval,ht,hw];exact bp Z _ ⟨cH,J',iz fs,bs,ck,_,uY,by grind,⟨fs,rfl,by grind⟩,rfl,bS⟩
    .simp[V0,seval];refine bQ _ ?_;simp[V0,seval];grind
   .have hi0:0<i:=by grind
    obtain⟨z,r,V6⟩:∃ z r,a.oc.l=z::r:=by
     cases hl:a.oc.l with
     |nil=>grind
     |cons z r=>simp
    have hz:=EN a.oc (tj _ (a3 hi0)) (m+5) Z z (by grind);have hfz:j7 p i a=eC p z:=by obtain⟨j,rfl⟩:∃ j,i=j+1:=⟨i-1,Z⟩;show iy p ((a.oc.l[0]?).getD 0)=_;grind
    rw[hfz,decide_eq_true hi0,rF,bU hi0]at hG;have Wm:∀ aa,cu aa 1 a.oc.v (.int .i64 0)=some (.p,.ptrC (a.oc.l.flatMap aK) (0*1),aa):=fun aa=>zc a.oc (i:=0) (by grind);have Wd:bB (a.oc.l.flatMap aK) (0*1) 1=some [.int .i64 z]:=(zd (l:=a.oc.l) (i:=0) (x:=z) ze 0 1 (by grind) Z).trans rfl;simp[Pn.c,zf]at hz;have hdA:∀(x y w z:aP),(bI [] (J.length+1+1+1) (x::y::(J++[w,z])))[J.length+1+1]?=some w:=fun x y w z=>xb5
    cases hf0:(eC p z==0)
    .cases hs:gR false (iz fs) (eC p z)
     .have evS:∀(R:aS)(C:Call)(n0:Nat)(aa:aS)(t:List IV)(a b:bD),ρ t a=.mapM (d+1) 1->ρ t b=.int .i64 (eC p z)->bY C (d+1) bH n0 (p.o::.map (eD (iz fs)) (eL IV.bool (iz fs)) bs ck::R) aa t (.lookup (.bool false) (false,[1]) false a b)=some (.r,.bool (gR false (iz fs) (eC p z)),aa):=fun R C n0 aa t a b h1 h2=>Ya (bs:=bs) (ck:=ck) false (eC p z) rfl h1 h2 (by simp[look,if_true,rG,rH]);have nJ:fs.contains (eC p z)=false:=by rw[←zgg];omega
      rw[hf0,nJ,jg,b9 M]at hG;obtain⟨bs',gX,CZ⟩:=Bq (u:=IV.bool) (iz fs) bs ck (eC p z) true;simp only[V0,seval,af,h,zc As h,hrd,ez,hp,Wm,Wd,hz,hdA,evS,hs,hf0,(fun C n0 aJ aa t a b c=>CZ C (d+1) bH n0 1 aJ aa t a b c)];refine hT a q Z Z hqc lQ hqs _ (eC p z) i As.l.length J.length lv As.v _ _ xs (hO.more _) Z M bS (fun t' cH J' uY ht hok=>?_) (fun t' O ht hok=>?_)
      .simp[za,zb,zf]at ht;simp only[V0,seval,ht,hw];exact bp Z _ ⟨cH,J',_,bs',gX,_,uY,by grind,⟨fs++[eC p z],(KT nJ),by grind⟩,rfl,bS⟩
      .simp[V0,seval];refine bQ _ ?_;simp[V0,seval];grind
     .have evS:∀(R:aS)(C:Call)(n0:Nat)(aa:aS)(t:List IV)(a b:bD),ρ t a=.mapM (d+1) 1->ρ t b=.int .i64 (eC p z)->bY C (d+1) bH n0 (p.o::.map (eD (iz fs)) (eL IV.bool (iz fs)) bs ck::R) aa t (.lookup (.bool false) (false,[1]) false a b)=some (.r,.bool (gR false (iz fs) (eC p z)),aa):=fun R C n0 aa t a b h1 h2=>Ya (bs:=bs) (ck:=ck) false (eC p z) rfl h1 h2 (by simp[look,if_true,rG,rH]);simp only[V0,seval,af,h,zc As h,hrd,ez,hp,Wm,Wd,hz,hdA,evS,hs,hf0];refine bQ _ ?_;simp[V0,seval];exact afh _ _ bS (by rw[bU (by rw[←zgg,hs,RM])]at hG;grind)
    .simp only[V0,seval,af,h,zc As h,hrd,ez,hp,Wm,Wd,hz,hdA,hf0];refine bQ _ ?_;simp[V0,seval];exact afh _ _ bS (by grind)
  .simp[V0,seval,af,h];refine bK _ _ ?_;have hlen:∀(aa:aS),iY (d+1) bH (bI [] (J.length+1+1) (p.o::.map (eD (iz fs)) (eL IV.bool (iz fs)) bs ck::J)) aa 2 (.mapM (d+1) 1)=some (.r,.int .i64 ((iz fs).length:Nat),aa):=fun aa=>by simp[iY,look,zu,eD]
   simp[V0,seval,af,hlen];rw[Sj Z]at hG;refine fin _ _ _ _ _ _ (((iz fs).length:Int)==(p.fs.l.length:Int)) hO Z ?_ bS;rw[←hG,Kw];rfl
 grind
theorem Ts{p:Pn}(h2:qu p=true)(h3:wS p=true)(h4:(kB p (p.ns.l.map Nd.id)==0)=true):lZ p:=by
 rw[vE]at h4;cases h5:p.az.l.any (fun a=>!jD p a)
 .unfold qu at h2;simp[kE]at h2;unfold wS iE at h3;simp only[kE,ET]at h3;have hlo:∀ a∈p.az.l,(cT p a.fr).isSome=true/\(cT p a.to).isSome=true:=fun a ha=>by have:=ES.1 h5 a ha;simp only[tZ,zmh,jD,kE]at this;omega
  refine⟨ZB.1 h2.1,ZB.1 h2.2.1,fun x hx=>Yv ?_,fun a ha q hq=>Yv ?_,fun a ha=>(hlo a ha).1,fun a ha=>(hlo a ha).2⟩
  .grind
  grind
 grind
theorem KV(p:Pn):rS p (jT p.ns.l (lM p))=jq p:=by unfold rS jq KK BY;rw[BT,vE];grind
theorem Ck(hS:bk S)(p:Pn)(hv:∀ a∈p.az.l,a.via.l.length<=64)(ha:p.az.l.length<=600)(hN:lZ p):∃ N,aM S N 229 [.agg p.c] (.bool (jT p.ns.l (lM p))):=by let⟨N,h⟩:=FA hS p hv ha;refine⟨N,fun m hm d ah aJ aa id=>?_⟩;let⟨v,hpv,h1⟩:=h m hm d ah aJ aa id;rw[←Cj hN hpv];omega
theorem GN(hS:bk S)(De:∀ args,S 185 args=none)(p:Pn)(h1:p.ns.l.length<=1000000)(h2:p.az.l.length<=1000000)(h3:∀ a∈p.az.l,a.via.l.length<=1000000):∃ N,aM S N 185 [.agg p.c] (.int .i64 (jq p)):=by
 have hpl:∃ N,mK p=false->nG p=false->lZ p->aM S N 229 [.agg p.c] (.bool (jT p.ns.l (lM p))):=by
  by_cases hb:(mK p=false/\nG p=false)/\lZ p
  .let⟨⟨h4,h5⟩,hN⟩:=hb;simp only[mK,Ez,W9]at h4;have h6:∀ a∈p.az.l,a.via.l.length<=64:=fun a ha=>by have:=ES.1 h5 a ha;grind
   let⟨N,h⟩:=Ck hS p h6 Z hN;grind
  simp_all
 let⟨Np,hp⟩:=hpl;rw[←KV];generalize jT p.ns.l (lM p)=v at hp ⊢;refine⟨Np+p.ns.l.length+p.az.l.length+p.fs.l.length+1000100+1,?_⟩;refine zg (i:=i185) (De _) rfl rfl (bP rfl) (Np+p.ns.l.length+p.az.l.length+p.fs.l.length+1000100) Z zp fun m hm d ah t af=>?_;simp[slotsOf,za,zb,i185,Pn.c]at af;cases hl:mK p
 .simp only[mK,Ez]at hl;let⟨l1,l2,l3⟩:=hl;have hl:mK p=false:=by simp[mK,l1,l2,l3,Vq]
  simp only[i185,V0,seval,af,ez,l1,l2,l3];refine zm p.az.l.length (fun i st=>∃(O:aS),(p.az.l.take i).any (fun a=>decide ((64:Int)<(a.via.l.length:Int)))=false/\st.aa=p.o::O/\aN 82 st.t [(1,.ptrM d 0 0),(24,p.az.v),(25,iv (p.az.l.length:Nat)),(26,iv i)]) Z ⟨[],M,rfl,by simp[V0,seval,af,cZ]⟩ ?_;rintro i ⟨t,aa⟩ KA hi ⟨O,ha,ho,af⟩ bp bK bQ;subst ho;simp[za,zb,zf]at af;by_cases h:i<p.az.l.length
  .obtain⟨x,hx⟩:=fc (l:=p.az.l) (i:=i) h;have hrd:bB (p.az.l.flatMap Ac.c) (i*6) 6=some [.int .i64 x.id,.int .i64 x.fr,.int .i64 x.to,x.via.v,.int .i64 x.l,.int .i64 x.r]:=(zd Ac.aV 0 6 hx Z).trans rfl;have hw:=zt i;cases hq:decide ((64:Int)<(x.via.l.length:Int))
   .exact xek
   .have hlv:nG p=true:=xe9;simp[V0,seval,af,h,zc p.az h,hrd,ez,hq];refine bQ _ ?_;simp[V0,seval,af,rS,hlv,RM,bV]
  .have hlv:nG p=false:=by unfold nG;grind
   simp[V0,seval,af,h];refine bK _ _ ?_;have c0:=fun dd oo aJ aa id=>QY hS p h1 h2 m Z dd oo aJ aa id;have jE:=zM ze (p.ns.l.map Nd.id) (YM h1);have hr2:=zM ze (p.az.l.map Ac.id) (YM h2);generalize bZ ze (p.ns.l.map Nd.id) (YM h1)=q1 at c0 jE;generalize bZ ze (p.az.l.map Ac.id) (YM h2)=q2 at c0 hr2;have n1:q1.l.length=p.ns.l.length:=by grind
   have n2:q2.l.length=p.az.l.length:=by grind
   have a1:=fun dd oo aJ aa id=>GP hS q1 m Z dd oo aJ aa id;have a2:=fun dd oo aJ aa id=>GP hS q2 m Z dd oo aJ aa id;have a3:=fun dd oo aJ aa id=>GP hS p.fs m Z dd oo aJ aa id;have b1:=fun dd oo aJ aa id=>GO hS q1 m Z dd oo aJ aa id;have b2:=fun dd oo aJ aa id=>GO hS q2 m Z dd oo aJ aa id;have b3:=fun dd oo aJ aa id=>GO hS p.fs m Z dd oo aJ aa id;have b4:=fun dd oo aJ aa id=>Md hS p 1000000 h3 m Z dd oo aJ aa id;have cc:=fun dd oo aJ aa id=>UY hS p q1 m Z dd oo aJ aa id;rw[jE]at a1 b1 cc;rw[hr2]at a2 b2;simp[Pn.c]at c0 b4 cc;have hni:qu p=true->wS p=true->(kB p (p.ns.l.map Nd.id)==0)=true->lZ p:=Ts;rw[(show rS p v=bif !qu p then 10 else bif !wS p then 2 else bif kB p (p.ns.l.map Nd.id)==0 then(bif v then 0 else 11)else kB p (p.ns.l.map Nd.id) by simp[rS,hl,hlv,Vq,bT])]
   unfold qu wS at hni ⊢;generalize dz (p.ns.l.map Nd.id)=u1 at a1 hni ⊢;generalize dz (p.az.l.map Ac.id)=u2 at a2 hni ⊢;generalize dz p.fs.l=u3 at a3 hni ⊢;generalize(p.ns.l.map Nd.id).any iO=w1 at b1 hni ⊢;generalize(p.az.l.map Ac.id).any iO=w2 at b2 hni ⊢;generalize p.fs.l.any iO=w3 at b3 hni ⊢;generalize iE p=w4 at b4 hni ⊢;generalize kB p (p.ns.l.map Nd.id)=ce at cc hni ⊢;have iS:∀ z:Int,(z != 0)=!(z==0):=fun z=>rfl;cases u1
   .simp only[V0,seval,af,c0,a1,dZ,bV]
   .cases u2
    .simp only[V0,seval,af,c0,a1,a2,dZ,bV]
    .cases u3
     .simp only[V0,seval,bV, *]
     .cases w1
      .cases w2
       .cases w3
        .cases w4
         .simp only[V0,seval,b2,nr,bV,bT, *]
         .cases hce:ce==0
          .simp only[V0,seval,b2,bT, *]
          .have cp:=fun dd oo aJ aa id=>(hp hl hlv) (hni rfl rfl hce) m Z dd oo aJ aa id;simp[Pn.c]at cp;cases v
           .simp only[V0,seval,b2,bV,bT, *]
           .simp only[V0,seval,b2,bV,bT, *]
        .simp only[V0,seval,b2,dZ,nr,bV,bT, *]
       .simp only[V0,seval,b2,dZ,nr,bV,bT, *]
      .simp only[V0,seval,dZ,bV,bT, *]
 .rw[(show rS p v=3 by simp[rS,hl,k9,bV])];simp only[mK]at hl;cases l1:decide ((256:Int)<(p.ns.l.length:Int))
  .cases l2:decide ((256:Int)<(p.az.l.length:Int))
   .simp only[i185,V0,seval,af,ez,l1,l2,(show decide ((64:Int)<(p.fs.l.length:Int))=true by grind)]
   .simp only[i185,V0,seval,af,ez,l1,l2]
  .simp only[i185,V0,seval,af,ez,l1]
theorem IF(o a:Pt):VX o a=Bd o a:=by unfold VX Bd;rfl
theorem uS{o p:Pt}(ho:o.near)(hp:p.near)(hq:q.near)(TW:p≠o)(hqo:q≠o):pV o p q=lss o p q:=by
 have hall:[o,p,q].all bg=true:=by rw[oO,oO,oO,zS ho,zS hp,zS hq];rfl
 unfold pV lss;rw[hall,(Vw.2 fun h=>TW (ZU.1 h)),(Vw.2 fun h=>hqo (ZU.1 h)),Xm (zS ho) (zS hp) (zS hq),←Sn,IF,IF];simp
variable {b:Int}{i:Nat}{x:Nd}
section
variable {p:Pn} (h:aX p)
include h
theorem aX.FJ(hx:x∈p.ns.l){j:Nat}{a:Int}(ha:(bt p x.id)[i]?=some a)(hb:(bt p x.id)[j]?=some b):lss x.at' (h.eH.sc a) (h.eH.sc b)=true↔i<j:=by
 have hp:=yL.1 (h.around hx).2;constructor
 .intro hl;rcases zmo i j with hij|hij|hij
  .omega
  .subst hij;rw[ha]at hb;cases hb;rw[xH]at hl;grind
  .exact(zab hl (hp j i b a hij hb ha)).elim
 grind
theorem aX.Js(hx:x∈p.ns.l){L:List (Int×Pt)}(hL:∀ z∈bu p x.id,iU L z=fk p z){a:Int}(ha:a∈bu p x.id)(hb:b∈bu p x.id):DP x.at' L a b<0↔lss x.at' (h.eH.sc a) (h.eH.sc b)=true:=by
 have key:∀ z∈bu p x.id,fk p z=h.eH.sc z/\(fk p z).near/\fk p z≠x.at':=fun z hz=>by
  exact xbd
 let⟨a1,a2,a3⟩:=key a ha;let⟨b1,b2,b3⟩:=key b hb;have ho:=Xn (h.nice.OA x hx);unfold DP;rw[hL a ha,hL b hb,uS ho a2 b2 a3 b3,uS ho b2 a2 b3 a3,a1,b1];grind
theorem aX.DO(hx:x∈p.ns.l){L:List (Int×Pt)}(hL:∀ z∈bu p x.id,iU L z=fk p z):Orders (fun a b:{ z // z∈bu p x.id }=>DP x.at' L a.1 b.1):=by
 have ix:∀ a:{ z // z∈bu p x.id },∃ i,(bt p x.id)[i]?=some a.1:=fun a=>rj ((h.around hx).1.mem_iff.2 a.2);have lt:∀(a b:{ z // z∈bu p x.id }){i j:Nat},(bt p x.id)[i]?=some a.1->(bt p x.id)[j]?=some b.1->(DP x.at' L a.1 b.1<0↔i<j):=fun a b i j hi hj=>(h.Js hx hL a.2 b.2).trans (h.FJ hx hi hj);refine⟨fun a b=>?_,fun a b c h1 h2=>?_⟩
 .let⟨i,hi⟩:=ix a;let⟨j,hj⟩:=ix b;unfold up;grind
 .let⟨i,hi⟩:=ix a;let⟨j,hj⟩:=ix b;let⟨k,hk⟩:=ix c;unfold up at h1 h2 ⊢;grind
end
variable {ah:bq}{d m:Nat}
section
theorem zdj(hS:bk S)(hm:4<=m)(z:Int)(y:Pt)(x0 x2 x3:aP)(L:List (Int×Pt))(bs:List Nat)(ck:Nat)(J:aS)(lv:IV)(xs:List Int)(hO:bE aK 1 d 6 J lv xs)(hx:xs.length<=1000000)(aJ:aS) :
  ∃(cH:IV)(J':aS)(L':List (Int×Pt))(bs':List Nat)(gX:Nat),(∀ id,aL aO S m d ah aJ (x0::.cells [lv]::x2::x3::.map (dO L) (dU L) bs ck::.cells [.mapM d 4]::J) id 230 [.int .i64 z,.agg [.int .i64 y.x,.int .i64 y.y],.ptrM d 1 0,.ptrM d 5 0]=some (.x,.tuple [],x0::.cells [cH]::x2::x3::.map (dO L') (dU L') bs' gX::.cells [.mapM d 4]::J'))/\bE aK 1 d 6 J' cH (xs++[z])/\(∀ k,iU L' k=if k=z then y else iU L k)/\∀(j:Nat)(x:aP),J[j]?=some x->x≠aP.cells (xs.flatMap aK)->J'[j]?=some x:=by
 obtain⟨m,rfl⟩:=gv m 1
 let⟨L',bs',gX,hlk,CZ⟩:=xE L bs ck z y
 obtain⟨e,cH,J2,bz,cL,hkeep⟩:=zcg (Pre:=[x0,.cells [lv],x2,x3,.map (dO L) (dU L) bs ck,.cells [.mapM d 4]]) (n0:=J.length+1+1+1+1+1+1+1) (slot:=0) (k:=1) (ah:=ah) (R:=[.cells [.int .i64 y.x,.int .i64 y.y],.free]) ze hO (ys:=[z]) M (by grind) (by simp only[fB,gq];omega) rfl rfl
 simp[gu,fP,eT,jm,aK,zf,fB,gq,gF,eB]at bz
 let⟨v1,v2⟩:=cL.one
 have hy:J2[J.length]?=some (.cells [.int .i64 y.x,.int .i64 y.y]):=hkeep J.length _ Z M (.inl (cI _))
 have main:∃ v aU,(∀ id,aL aO S (m+1) d ah aJ (x0::.cells [lv]::x2::x3::.map (dO L) (dU L) bs ck::.cells [.mapM d 4]::J) id 230 [.int .i64 z,.agg [.int .i64 y.x,.int .i64 y.y],.ptrM d 1 0,.ptrM d 5 0]=some (.x,v,aU))/\(v=.tuple []/\aU=x0::.cells [cH]::x2::x3::.map (dO L') (dU L') bs' gX::.cells [.mapM d 4]::J2):=by refine yq (hS _ _ M M M M) rfl rfl (bP rfl) fun t af=>?_;simp[V2,Xb,i230]at af;have FX:=fun C n0 aJ aa t a b c=>CZ C d ah n0 4 aJ aa t a b c;simp only[i230,V0,seval,rep,zh,zl,zq,zw,yB,M5, *];grind
 obtain⟨v,aU,h1,rfl,rfl⟩:=main
 refine⟨cH,J2,L',bs',gX,h1,cL,hlk,fun j x hj hne=>?_⟩
 grind
end
variable {D:Nat}
section
theorem GR(hS:bk S)(p:Pn)(hm:4<=m)(K:eU)(t:List IV)(node:Int)(x:Ac)(j i:Nat)(q':aR 2 Pt.c)(hq:2<=q'.l.length)(O0 x2 x3:aP)(lv:IV)(J:aS)(L:List (Int×Pt))(bs:List Nat)(ck:Nat)(xs:List Int)
  (hj:J[j]?=some (.cells [.int .i64 x.id,.int .i64 x.fr,.int .i64 x.to,x.via.v,.int .i64 x.l,.int .i64 x.r])) (hO:bE aK 1 D 6 J lv xs) (hx:xs.length<=1000000)
  (af:aN 80 t [(1,.int .i64 node),(2,.ptrM D 0 0),(4,.ptrM D 1 0),(5,.ptrM D 3 0),(7,.ptrM D 5 0),(8,.fn 230 [] [.ptrM D 1 0,.ptrM D 5 0]),(10,.ptrM D (j+1+1+1+1+1+1) 0),(11,q'.v),(24,p.az.v),(25,iv (p.az.l.length:Nat)),(26,iv i)])
  (hK:∀ t' lv J L' bs ck xs',J[j]?=some (.cells [.int .i64 x.id,.int .i64 x.fr,.int .i64 x.to,x.via.v,.int .i64 x.l,.int .i64 x.r])->bE aK 1 D 6 J lv xs'->(xs'=xs++(if (x.fr==node)=true then[x.id]else[])/\∀ k,iU L' k=if (x.fr==node)=true/\k=x.id then(q'.l[1]?).getD ⟨0,0⟩else iU L k)->aN 80 t' [(1,.int .i64 node),(2,.ptrM D 0 0),(4,.ptrM D 1 0),(5,.ptrM D 3 0),(7,.ptrM D 5 0),(8,.fn 230 [] [.ptrM D 1 0,.ptrM D 5 0]),(10,.ptrM D (j+1+1+1+1+1+1) 0),(11,q'.v),(24,p.az.v),(25,iv (p.az.l.length:Nat)),(26,iv i)]->K .normal ⟨t',O0::.cells [lv]::x2::x3::.map (dO L') (dU L') bs ck::.cells [.mapM D 4]::J⟩) :
  Ex (aL aO S m) D ah m (i186.body.sub [1,1,1,1,1,0,1,0,0,1,1,0,0,1,1,1,1,0]) K ⟨t,O0::.cells [lv]::x2::x3::.map (dO L) (dU L) bs ck::.cells [.mapM D 4]::J⟩:=by
 have ag4:=af
 simp[za,zb,zf]at af
 cases hf:x.fr==node
 .exact xc9
 .let⟨y,hy⟩:∃ y,q'.l[1]?=some y:=⟨_,dw Z⟩
  have hr:bB (q'.l.flatMap Pt.c) (1*2) 2=some [.int .i64 y.x,.int .i64 y.y]:=xdy
  have ha:∀ aa,cu aa 2 q'.v (.int .i64 1)=some (.p,.ptrC (q'.l.flatMap Pt.c) (1*2),aa):=fun aa=>zc q' (i:=1) Z
  obtain⟨cH,J',L',bs',gX,hc,I8,hlk,hkeep⟩:=zdj (ah:=ah) hS hm x.id y O0 x2 x3 L bs ck (J++[aP.free]) lv xs (hO.more _) hx (bI [] (J.length+1+1+1+1+1+1) (O0::.cells [lv]::x2::x3::.map (dO L) (dU L) bs ck::.cells [.mapM D 4]::(J++[aP.free])))
  have hh:(bI [] (J.length+1+1+1+1+1+1) (O0::.cells [lv]::x2::x3::.map (dO L) (dU L) bs ck::.cells [.mapM D 4]::(J++[aP.free])))[j+1+1+1+1+1+1]?=some (.cells [.int .i64 x.id,.int .i64 x.fr,.int .i64 x.to,x.via.v,.int .i64 x.l,.int .i64 x.r]):=by rw[zu];grind
  simp[i186,IC.sub,V0,seval,hc, *]
  exact xd6
theorem GQ(hS:bk S)(p:Pn)(hm:4<=m)(K:eU)(t:List IV)(node:Int)(x:Ac)(j i:Nat)(q':aR 2 Pt.c)(hq:2<=q'.l.length)(O0 x2 x3:aP)(lv:IV)(J:aS)(L:List (Int×Pt))(bs:List Nat)(ck:Nat)(xs:List Int)
  (hj:J[j]?=some (.cells [.int .i64 x.id,.int .i64 x.fr,.int .i64 x.to,x.via.v,.int .i64 x.l,.int .i64 x.r])) (hO:bE aK 1 D 6 J lv xs) (hx:xs.length<=1000000)
  (af:aN 80 t [(1,.int .i64 node),(2,.ptrM D 0 0),(4,.ptrM D 1 0),(5,.ptrM D 3 0),(7,.ptrM D 5 0),(8,.fn 230 [] [.ptrM D 1 0,.ptrM D 5 0]),(10,.ptrM D (j+1+1+1+1+1+1) 0),(11,q'.v),(24,p.az.v),(25,iv (p.az.l.length:Nat)),(26,iv i)])
  (hK:∀ t' lv J L' bs ck xs',J[j]?=some (.cells [.int .i64 x.id,.int .i64 x.fr,.int .i64 x.to,x.via.v,.int .i64 x.l,.int .i64 x.r])->bE aK 1 D 6 J lv xs'->(xs'=xs++(if (x.to==node)=true then[aT .i64 (0-x.id)]else[])/\∀ k,iU L' k=if (x.to==node)=true/\k=aT .i64 (0-x.id)then(q'.l[q'.l.length-2]?).getD ⟨0,0⟩else iU L k)->aN 80 t' [(1,.int .i64 node),(2,.ptrM D 0 0),(4,.ptrM D 1 0),(5,.ptrM D 3 0),(7,.ptrM D 5 0),(8,.fn 230 [] [.ptrM D 1 0,.ptrM D 5 0]),(10,.ptrM D (j+1+1+1+1+1+1) 0),(11,q'.v),(24,p.az.v),(25,iv (p.az.l.length:Nat)),(26,iv i)]->K .normal ⟨t',O0::.cells [lv]::x2::x3::.map (dO L') (dU L') bs ck::.cells [.mapM D 4]::J⟩) :
  Ex (aL aO S m) D ah m (i186.body.sub [1,1,1,1,1,0,1,0,0,1,1,0,0,1,1,1,1,1]) K ⟨t,O0::.cells [lv]::x2::x3::.map (dO L) (dU L) bs ck::.cells [.mapM D 4]::J⟩:=by
 have ag4:=af
 simp[za,zb,zf]at af
 cases hf:x.to==node
 .exact xc9
 .let⟨y,hy⟩:∃ y,q'.l[q'.l.length-2]?=some y:=⟨_,dw Z⟩
  have hr:bB (q'.l.flatMap Pt.c) ((q'.l.length-2)*2) 2=some [.int .i64 y.x,.int .i64 y.y]:=xdy
  have pz:=q'.eZ
  have hw:aT .i64 ((q'.l.length:Int)-2)=((q'.l.length-2:Nat):Int):=oS
  have ha:∀ aa,cu aa 2 q'.v (.int .i64 ((q'.l.length-2:Nat):Int))=some (.p,.ptrC (q'.l.flatMap Pt.c) ((q'.l.length-2)*2),aa):=fun aa=>zc q' (i:=q'.l.length-2) Z
  obtain⟨cH,J',L',bs',gX,hc,I8,hlk,hkeep⟩:=zdj (ah:=ah) hS hm (aT .i64 (0-x.id)) y O0 x2 x3 L bs ck (J++[aP.free]) lv xs (hO.more _) hx (bI [] (J.length+1+1+1+1+1+1) (O0::.cells [lv]::x2::x3::.map (dO L) (dU L) bs ck::.cells [.mapM D 4]::(J++[aP.free])))
  have hh:(bI [] (J.length+1+1+1+1+1+1) (O0::.cells [lv]::x2::x3::.map (dO L) (dU L) bs ck::.cells [.mapM D 4]::(J++[aP.free])))[j+1+1+1+1+1+1]?=some (.cells [.int .i64 x.id,.int .i64 x.fr,.int .i64 x.to,x.via.v,.int .i64 x.l,.int .i64 x.r]):=by rw[zu];grind
  simp only[i186,IC.sub,V0,seval,hc, *]
  exact xd6
end
theorem AM(hS:bk S)(p:Pn){m D:Nat}{ah:bq}(hm:4<=m)(K:eU)(t:List IV)(node:Int)(x:Ac)(j i:Nat)(q':aR 2 Pt.c)(hq:2<=q'.l.length)(O0 x2 x3:aP)(lv:IV)(J:aS)(L:List (Int×Pt))(bs:List Nat)(ck:Nat)(xs:List Int)
  (hj:J[j]?=some (.cells [.int .i64 x.id,.int .i64 x.fr,.int .i64 x.to,x.via.v,.int .i64 x.l,.int .i64 x.r])) (hO:bE aK 1 D 6 J lv xs) (hx:xs.length+1<=1000000)
  (af:aN 80 t [(1,.int .i64 node),(2,.ptrM D 0 0),(4,.ptrM D 1 0),(5,.ptrM D 3 0),(7,.ptrM D 5 0),(8,.fn 230 [] [.ptrM D 1 0,.ptrM D 5 0]),(10,.ptrM D (j+1+1+1+1+1+1) 0),(11,q'.v),(24,p.az.v),(25,iv (p.az.l.length:Nat)),(26,iv i)])
  (hK:∀ t' lv J L' bs ck xs',bE aK 1 D 6 J lv xs'->(xs'=xs++cD node x/\∀ k,iU L' k=if (x.to==node)=true/\k=iR x.id then(q'.l[q'.l.length-2]?).getD ⟨0,0⟩else if (x.fr==node)=true/\k=x.id then(q'.l[1]?).getD ⟨0,0⟩else iU L k)->aN 80 t' [(1,.int .i64 node),(2,.ptrM D 0 0),(4,.ptrM D 1 0),(5,.ptrM D 3 0),(7,.ptrM D 5 0),(8,.fn 230 [] [.ptrM D 1 0,.ptrM D 5 0]),(10,.ptrM D (j+1+1+1+1+1+1) 0),(11,q'.v),(24,p.az.v),(25,iv (p.az.l.length:Nat)),(26,iv i)]->K .normal ⟨t',O0::.cells [lv]::x2::x3::.map (dO L') (dU L') bs ck::.cells [.mapM D 4]::J⟩) :
  Ex (aL aO S m) D ah m (i186.body.sub [1,1,1,1,1,0,1,0,0,1,1,0,0,1,1,1,1]) K ⟨t,O0::.cells [lv]::x2::x3::.map (dO L) (dU L) bs ck::.cells [.mapM D 4]::J⟩:=by
 rw[show i186.body.sub [1,1,1,1,1,0,1,0,0,1,1,0,0,1,1,1,1]=.seq (i186.body.sub [1,1,1,1,1,0,1,0,0,1,1,0,0,1,1,1,1,0]) (i186.body.sub [1,1,1,1,1,0,1,0,0,1,1,0,0,1,1,1,1,1])from rfl,ze1]
 refine GR hS p hm _ t node x j i q' hq O0 x2 x3 lv J L bs ck xs hj hO Z af fun t1 VZ J1 L1 bs1 ck1 xs1 hj1 F8 hx1 ag3=>?_
 rw[yA]
 let⟨e1,g1⟩:=hx1
 have mB:xs1.length<=xs.length+1:=by grind
 refine GQ hS p hm _ t1 node x j i q' hq O0 x2 x3 VZ J1 L1 bs1 ck1 xs1 hj1 F8 Z ag3 fun t2 qw J2 L2 bs2 ck2 Xp hj2 cL hx2 ac4=>?_
 let⟨e2,g2⟩:=hx2
 refine hK _ _ _ _ _ _ _ cL ⟨?_,fun k=>?_⟩ ac4
 .rw[e2,e1,mo]
  rfl
 .rw[g2 k,g1 k]
  rfl
structure e9(p:Pn)(node:Int)(L:List (Int×Pt))(xs:List Int)(i:Nat):Prop where
 list:xs=(p.az.l.take i).flatMap (cD node)
 look:∀ a∈p.az.l.take i,∀ z∈cD node a,iU L z=fk p z
variable {z:Int}
theorem zgh{node:Int}{a:Ac}:z∈cD node a↔((a.fr==node)=true/\z=a.id)∨((a.to==node)=true/\z=iR a.id):=by unfold cD;simp
theorem Gr{node:Int}(l:List Ac):(l.flatMap (cD node)).length<=2*l.length:=by
 induction l with
 |nil=>simp
 |cons a l ih =>
  have:(cD node a).length<=2:=by unfold cD;grind
  grind
variable {xs:List Int}
section
variable {p:Pn} {node:Int} {L:List (Int×Pt)} 
theorem e9.zero:e9 p node L [] 0:=⟨by rfl,fun a ha=>by grind⟩
theorem e9.len(h:e9 p node L xs i)(hi:i<=p.az.l.length):xs.length<=2*i:=by have:=Gr (node:=node) (p.az.l.take i);rw[←h.list,ER,ML hi]at this;omega
theorem e9.all(h:e9 p node L xs i)(hi:p.az.l.length<=i):xs=bu p node/\∀ z∈bu p node,iU L z=fk p z:=by let⟨h1,h2⟩:=h;rw[fT hi]at h1 h2;refine⟨h1,fun z hz=>?_⟩;let⟨a,ha,hz⟩:=oQ.1 hz;grind
theorem e9.skip(h:e9 p node L xs i){x:Ac}(hx:p.az.l[i]?=some x)(hf:(x.fr==node)=false)(ht:(x.to==node)=false):e9 p node L xs (i+1):=by
 have e:cD node x=[]:=by unfold cD;grind
 refine⟨?_,fun a ha z hz=>?_⟩
 .rw[jh,hx,oP,Bh,←h.list,eT,e];simp
 .rw[jh,hx,oP,qY,MG]at ha;rcases ha with ha|rfl
  .exact h.look a ha z hz
  grind
theorem e9.step(h:e9 p node L xs i)(h0:aX p){x:Ac}(hx:p.az.l[i]?=some x)(tL:x∈p.az.l){q':List Pt}(hq:q'=dW p x.id){L':List (Int×Pt)}{xs':List Int}(e1:xs'=xs++cD node x)(e2:∀ k,iU L' k=if (x.to==node)=true/\k=iR x.id then(q'[q'.length-2]?).getD ⟨0,0⟩else if (x.fr==node)=true/\k=x.id then(q'[1]?).getD ⟨0,0⟩else iU L k):e9 p node L' xs' (i+1):=by
 have hid:=h0.pid x tL;have hng:=h0.ng tL;have h2:=yv (p:=p) (a:=x);have hp:=(h0.nice.path tL).2;rw[hp]at hq;have s1:fk p x.id=(q'[1]?).getD ⟨0,0⟩:=by unfold fk bR;grind
 have s2:fk p (-x.id)=(q'[q'.length-2]?).getD ⟨0,0⟩:=by unfold fk bR;rw[decide_eq_false (show ¬ 0 < -x.id by omega),bT,h0.ng2 tL,hp,List.getElem?_reverse Z,hq];rfl
 refine⟨?_,fun a ha z hz=>?_⟩
 .rw[jh,hx,oP,Bh,←h.list,eT,e1];simp
 .rw[jh,hx,oP,qY,MG]at ha;rw[e2 z];rcases ha with ha|rfl
  .let⟨j,hj⟩:=rj ha;have hji:j<i:=by grind
   rw[znr hji]at hj;have au:a.id<x.id:=by have hp:=h0.nice.Rq;rw[rE]at hp;exact yL.1 hp j i a x hji hj hx
   have ham:=og hj;have kX:=h0.pid a ham;have hna:=h0.ng ham;have RV:z=a.id∨z=-a.id:=by
    rcases zgh.1 hz with⟨_,e⟩|⟨_,e⟩
    .omega
    omega
   rw[b9 (fun e=>by omega),b9 (fun e=>by omega)];exact h.look a ha z hz
  .rcases zgh.1 hz with⟨c,rfl⟩|⟨c,rfl⟩
   .grind
   grind
end
theorem AN(hS:bk S)(p:Pn)(h0:aX p)(gV:bL p)(ha:p.az.l.length<=100000):∃ N,∀ m,N<=m->∀(D:Nat)(ah:bq)(K:eU)(t:List IV)(node:Int)(x2 x3:aP)(L:List (Int×Pt))(bs:List Nat)(ck:Nat),
  aN 80 t [(1,.int .i64 node),(2,.ptrM D 0 0),(4,.ptrM D 1 0),(5,.ptrM D 3 0),(7,.ptrM D 5 0),(8,.fn 230 [] [.ptrM D 1 0,.ptrM D 5 0])] ->
  (∀ t' lv J L bs ck xs,bE aK 1 D 6 J lv xs->(xs=bu p node/\∀ z∈bu p node,iU L z=fk p z)->aN 80 t' [(1,.int .i64 node),(2,.ptrM D 0 0),(4,.ptrM D 1 0),(5,.ptrM D 3 0),(7,.ptrM D 5 0)]->K .normal ⟨t',p.o::.cells [lv]::x2::x3::.map (dO L) (dU L) bs ck::.cells [.mapM D 4]::J⟩) ->
  Ex (aL aO S m) D ah m (i186.body.sub [1,1,1,1,1,0]) K ⟨t,p.o::.cells [.nilsl]::x2::x3::.map (dO L) (dU L) bs ck::.cells [.mapM D 4]::[]⟩:=by
 have O7:∀ a∈p.az.l,∃ N,∀ m,N<=m->∃ q':aR 2 Pt.c,(cQ p a.id=true->q'.l=dW p a.id)/\∀ d ah aJ aa id,aL aO S m d ah aJ aa id 189 [.agg p.c,iv a.id]=some (.r,.tuple [q'.v,iv (bif cQ p a.id then 0 else 7)],aa):=fun a _=>by let⟨q',h1,N,h2⟩:=Il hS p a.id gV;exact⟨N,fun m hm=>⟨q',h1,h2 m hm⟩⟩
 let⟨Np,hNp⟩:=ED p.az.l O7
 refine⟨Np+p.az.l.length+20,fun m hm D ah K t node x2 x3 L bs ck af hK=>?_⟩
 simp[za,zb]at af
 have MR:=p.az.eZ
 have hT:=fun{D:Nat}{ah:bq} K t node x j i q' hq O0 x2 x3 lv J L bs ck xs=>@AM S hS p m D ah Z K t node x j i q' hq O0 x2 x3 lv J L bs ck xs
 rw[show i186.body.sub [1,1,1,1,1,0]=.seq (i186.body.sub [1,1,1,1,1,0,0]) (.block 0 (.loop (.seq (i186.body.sub [1,1,1,1,1,0,1,0,0,0]) (.seq (i186.body.sub [1,1,1,1,1,0,1,0,0,1,0]) (.seq (.block 1 (.seq (i186.body.sub [1,1,1,1,1,0,1,0,0,1,1,0,0,0]) (.seq (i186.body.sub [1,1,1,1,1,0,1,0,0,1,1,0,0,1,0]) (.seq (i186.body.sub [1,1,1,1,1,0,1,0,0,1,1,0,0,1,1,0]) (.seq (i186.body.sub [1,1,1,1,1,0,1,0,0,1,1,0,0,1,1,1,0]) (i186.body.sub [1,1,1,1,1,0,1,0,0,1,1,0,0,1,1,1,1])))))) (i186.body.sub [1,1,1,1,1,0,1,0,0,1,1,1]))))))from rfl]
 generalize i186.body.sub [1,1,1,1,1,0,1,0,0,1,1,0,0,1,1,1,1]=T at hT ⊢
 simp[i186,IC.sub,V0,seval,af]
 refine zm p.az.l.length (fun i st=>∃(lv:IV)(J:aS)(L:List (Int×Pt))(bs:List Nat)(ck:Nat)(xs:List Int),bE aK 1 D 6 J lv xs/\e9 p node L xs i/\st.aa=p.o::.cells [lv]::x2::x3::.map (dO L) (dU L) bs ck::.cells [.mapM D 4]::J/\aN 80 st.t [(1,.int .i64 node),(2,.ptrM D 0 0),(4,.ptrM D 1 0),(5,.ptrM D 3 0),(7,.ptrM D 5 0),(8,.fn 230 [] [.ptrM D 1 0,.ptrM D 5 0]),(24,p.az.v),(25,iv (p.az.l.length:Nat)),(26,iv i)]) Z ⟨.nilsl,[],L,bs,ck,[],.inl ⟨rfl,rfl⟩,e9.zero,rfl,by simp[V0,seval,af,cZ]⟩ ?_
 clear af
 rintro i ⟨t,aa⟩ KA hi ⟨lv,J,L,bs,ck,xs,hO,hD,rfl,af⟩ bp bK bQ
 simp[za,zb,zf]at af
 by_cases h:i<p.az.l.length
 .have hx:p.az.l[i]?=some p.az.l[i]:=dw h
  have tL:=gQ h
  have hxl:=hD.len hi
  let⟨q',hq1,lQ⟩:=hNp _ (gQ h) m Z
  generalize p.az.l[i]=x at hx hq1 lQ tL
  have hrd:bB (p.az.l.flatMap Ac.c) (i*6) 6=some [.int .i64 x.id,.int .i64 x.fr,.int .i64 x.to,x.via.v,.int .i64 x.l,.int .i64 x.r]:=xa9
  have hw:=zt i
  have iS:∀ a b:Int,(a != b)=!(a==b):=fun a b=>rfl
  simp[zf,Pn.c]at lQ
  have h70:((7:Int)==0)=false:=rfl
  have Wu:((0:Int)==0)=true:=rfl
  by_cases TY:(x.fr != node&&x.to != node)=true
  .have hf:(x.fr==node)=false:=by grind
   have ht:(x.to==node)=false:=by grind
   simp only[V0,seval,zc p.az h, *]
   exact bp Z _ ⟨lv,_,L,bs,ck,xs,hO.more _,hD.skip hx hf ht,rfl,bS⟩
  .have hok:=(h0.nice.path tL).1
   have hj0:(J++[aP.cells [.int .i64 x.id,.int .i64 x.fr,.int .i64 x.to,x.via.v,.int .i64 x.l,.int .i64 x.r],.free])[J.length]?=some (.cells [.int .i64 x.id,.int .i64 x.fr,.int .i64 x.to,x.via.v,.int .i64 x.l,.int .i64 x.r]):=by simp
   rw[hok]at lQ
   have hlen:2<=q'.l.length:=by rw[hq1 hok,dW];simp
   have hst:=fun L' xs'=>hD.step h0 (L':=L') (xs':=xs') hx tL (hq1 hok)
   cases hf:x.fr==node
   .have ht:(x.to==node)=true:=by grind
    exact xaq
   .exact xaq
 .simp[V0,seval,af,h]
  refine bK _ _ ?_
  simp[V0,seval]
  exact hK _ _ _ _ _ _ _ hO (hD.all Z) bS
section
variable {p:Pn} (h:aX p)
include h
theorem aX.tA(hx:x∈p.ns.l){L:List (Int×Pt)}(hL:∀ z∈bu p x.id,iU L z=fk p z){xs:List { z // z∈bu p x.id }}(hp:xs.Perm (bu p x.id).attach)(hs:Srt (fun a b:{ z // z∈bu p x.id }=>DP x.at' L a.1 b.1) xs 0 xs.length):xs.map Subtype.val=bt p x.id:=by
 have hpm:=hp.map Subtype.val;rw[List.attach_map_subtype_val]at hpm;refine h.D2 hx hpm ?_;rw[rE];refine yL.2 fun i j a b hij ha hb=>?_;have hu:=hs i j a b (RH _) hij (ew.1 hb).1 ha hb;unfold up at hu;rw[h.Js hx hL b.2 a.2]at hu;let⟨u,hu1⟩:=rj ((h.around hx).1.mem_iff.2 a.2);let⟨v,hv1⟩:=rj ((h.around hx).1.mem_iff.2 b.2);rw[h.FJ hx hv1 hu1]at hu;rw[h.FJ hx hu1 hv1];rcases zmo u v with huv|huv|huv
 .omega
 .exfalso;subst huv;rw[hu1]at hv1;have aq:a=b:=Subtype.ext (s6 hv1);subst aq;have ak:xs.Nodup:=by have:=hpm.nodup_iff.2 h.nS;grind
  let⟨l1,e1⟩:=ew.1 ha;let⟨l2,e2⟩:=ew.1 hb;have:=(zl6 ak).1 (e1.trans e2.symm);omega
 omega
end
def OQ{P:Int->Prop}:MB (fun a:{ z // P z }=>aK a.1) (fun a:{ z // P z }=>.int .i64 a.1) 1 false:=xc8
theorem tV(hS:bk S)(p:Pn)(h0:aX p)(gV:bL p)(ha:2*p.az.l.length<65536)(hx:x∈p.ns.l):∃ q:aR 1 aK,q.l=bt p x.id/\∃ N,aM S N 186 [.agg p.c,.int .i64 x.id] q.v:=by
 let⟨Nl0,acv⟩:=AN hS p h0 gV Z;let⟨Nn,ak⟩:=Iv hS p x.id;have ou:=ZV p x.id;have afa:=(h0.around hx).1;have hfl:(bt p x.id).length<9223372036854775808:=by rw[afa.length_eq];omega
 refine⟨bZ ze _ hfl,zM ..,Nl0+Nn+200000,fun m hm d ah aJ aa id=>?_⟩;obtain⟨m,rfl⟩:=gv m 2;have main:∃ r,aL aO S (m+1+1) d ah aJ aa id 186 [.agg p.c,.int .i64 x.id]=some r/\r=(dI.r,(bZ ze _ hfl).v,aa):=by
  refine zF (i:=i186) (hS _ _ M M M M) rfl Δ (bP rfl) fun t af=>?_;simp[V2,i186,Pn.c]at af;generalize(fun l=>if l=d then aJ else ah l:bq)=bH
  have ak:=ak (m+1) Z;have hL0:=@acv (m+1) Z;simp[zf,Pn.c]at ak;have fin:∀ t' (O0 x2 x3 x4 x5:aP) (J:aS) (lv:IV) (xs:List Int),bE aK 1 (d+1) 6 J lv xs->xs=bt p x.id->aN 80 t' [(4,.ptrM (d+1) 1 0)]->(Out.ret=.normal∨Out.ret=.ret)/\∃ w r,bh (d+1) bH ⟨t',O0::.cells [lv]::x2::x3::x4::x5::J⟩ i186.res=some w/\leave (m+1) d (O0::.cells [lv]::x2::x3::x4::x5::J) aa id i186.mode w=some r/\r=(dI.r,(bZ ze _ hfl).v,aa):=fun t' O0 x2 x3 x4 x5 J lv xs hO hD ht=>by
   simp[za,zb]at ht;subst hD;have hfz:=yy (Pre:=[O0,.cells [lv],x2,x3,x4,x5]) (m:=m+1) ze (fun a x hx=>by
    simp[aK,eG,gm,gw]at hx;subst hx;exact zp) Z hfl hO
   refine⟨.inr rfl,lv,_,?_,(fun o v w h=>by simp[leave,h]:∀(o:aS)(v w:IV),freeze (m+1) (d+1) o v=some w->leave (m+1) d o aa id 0 v=some (.r,w,aa)) _ _ _ hfz,rfl⟩;simp[i186,V0,seval,ht]
  suffices jc:∀ K:eU,(∀ t' (O0 x2 x3 x4 x5:aP) (J:aS) (lv:IV) (xs:List Int),bE aK 1 (d+1) 6 J lv xs->xs=bt p x.id->aN 80 t' [(4,.ptrM (d+1) 1 0)]->K .ret ⟨t',O0::.cells [lv]::x2::x3::x4::x5::J⟩)->Ex (aL aO S (m+1)) (d+1) bH (m+1) i186.body K ⟨t,[]⟩from jc _ fin
  clear fin;intro K fin;rw[show i186.body=.seq (i186.body.sub [0]) (.seq (i186.body.sub [1,0]) (.seq (i186.body.sub [1,1,0]) (.seq (i186.body.sub [1,1,1,0]) (.seq (i186.body.sub [1,1,1,1,0]) (.seq (i186.body.sub [1,1,1,1,1,0]) (.seq (i186.body.sub [1,1,1,1,1,1,0]) (i186.body.sub [1,1,1,1,1,1,1])))))))from rfl];generalize i186.body.sub [1,1,1,1,1,0]=T at hL0 ⊢;rw[(ZM h0.nice.VT hx)]at ak;simp[MF,znf,Nd.c,zf]at ak;have cmp:∀ a b,(IV.mapM a b).cells=[.mapM a b]:=fun _ _=>rfl;have smp:∀ a b,(IV.mapM a b).scalar=true:=fun _ _=>rfl;simp[i186,IC.sub,V0,seval,cmp,smp,af,ak];refine hL0 (d+1) bH _ _ x.id _ _ [] [] 0 bS fun t' lv J L bs ck xs hO hD ht=>?_;simp[za,zb]at ht;obtain⟨rfl,hlk⟩:=hD;rcases hO with⟨he,rfl⟩|⟨b,hne,rfl,hb⟩
  .obtain⟨J',hs⟩:=KS (d:=d+1) (ah:=bH) (aJ:=p.o::.cells [.nilsl]::.free::.cells [.int .i64 x.id,.int .i64 x.at'.x,.int .i64 x.at'.y]::.map (dO L) (dU L) bs ck::.cells [.mapM (d+1) 4]::(J++[.free])) (aa:=p.o::.cells [.nilsl]::.free::.cells [.int .i64 x.id,.int .i64 x.at'.x,.int .i64 x.at'.y]::.map (dO L) (dU L) bs ck::.cells [.mapM (d+1) 4]::(J++[.free])) (fv:=.fn 232 [] [.ptrM (d+1) 3 0,.ptrM (d+1) 5 0]) hS (m:=m+1) Z;have e0:bt p x.id=[]:=by simp_all
   simp[V0,seval,ht,hs];exact fin _ _ _ _ _ _ _ _ [] (.inl ⟨rfl,rfl⟩) e0.symm bS
  .have fE:(J++[aP.free])[b]?=some (.cells ((bu p x.id).flatMap aK)):=by grind
   have th:=(ew.1 hb).1;have R6:((bu p x.id).attach.flatMap fun a:{ z // z∈bu p x.id }=>aK a.1)=(bu p x.id).flatMap aK:=by simp
   generalize hxn:(bu p x.id).length=n at ou;have key:∀ W:aS,W=(p.o::.cells [.slM (d+1) (6+b) 0 n n 1 false]::.free::.cells [.int .i64 x.id,.int .i64 x.at'.x,.int .i64 x.at'.y]::.map (dO L) (dU L) bs ck::.cells [.mapM (d+1) 4]::(J++[.free])) ->
     ∃(J':aS),(∀ id,aL aO S (m+1) (d+1) bH W W id 231 [.slM (d+1) (6+b) 0 n n 1 false,.fn 232 [] [.ptrM (d+1) 3 0,.ptrM (d+1) 5 0]]=some (.x,.tuple [],p.o::.cells [.slM (d+1) (6+b) 0 n n 1 false]::.free::.cells [.int .i64 x.id,.int .i64 x.at'.x,.int .i64 x.at'.y]::.map (dO L) (dU L) bs ck::.cells [.mapM (d+1) 4]::J'))/\J'[b]?=some (.cells ((bt p x.id).flatMap aK)):=by
    intro W hW
    have hWl:6+b<W.length:=by rw[hW];simp;omega
    have hWb:W[6+b]?=some (.cells ((bu p x.id).flatMap aK)):=by grind
    have hcmp:Eu S (12) (d+1) bH W (6+b) (fun a:{ z // z∈bu p x.id }=>IV.int .i64 a.1) 232 [.ptrM (d+1) 3 0,.ptrM (d+1) 5 0] (fun a b=>DP x.at' L a.1 b.1):=fun m hm aJ aa id u v hR=>by
     refine GS hS Z u.1 v.1 x L bs ck aJ aa id ?_ ?_ ?_
     .rw[hR 3 Z Z,hW];rfl
     .rw[hR 4 Z Z,hW];rfl
     .rw[hR 5 Z Z,hW];rfl
    obtain⟨xs',hs,hp,hsr⟩:=Tk (d:=d+1) (ah:=bH) (cp:=n) (tg:=false) (h0.DO hx hlk) hS hWl OQ hcmp (n:=n) Z (fun h=>hne (EC (hxn.trans h))) (m+1) (Nc:=12) Z W (bu p x.id).attach [] (fun _ _ _=>rfl) (by grind)
    rw[←(show xs'.length=n by rw[hp.length_eq,List.length_attach];omega)]at hsr
    have Lj:=h0.tA hx hlk hp hsr
    rw[(show(xs'.flatMap fun a:{ z // z∈bu p x.id }=>aK a.1)=(bt p x.id).flatMap aK by simp_all),gF,R6,Jz hWb]at hs
    refine⟨(J++[aP.free]).set b (.cells ((bt p x.id).flatMap aK)),fun id=>?_,?_⟩
    .have hbk:Bk W (6+b) ((bt p x.id).flatMap aK)=p.o::.cells [.slM (d+1) (6+b) 0 n n 1 false]::.free::.cells [.int .i64 x.id,.int .i64 x.at'.x,.int .i64 x.at'.y]::.map (dO L) (dU L) bs ck::.cells [.mapM (d+1) 4]::(J++[aP.free]).set b (.cells ((bt p x.id).flatMap aK)):=by generalize IV.slM (d+1) (6+b) 0 n n 1 false=z at hW ⊢;rw[Bk,hW,show 6+b=b+1+1+1+1+1+1 by omega];rfl
     grind
    grind
   let⟨J',hs,hb'⟩:=key _ rfl;simp[V0,seval,ht,hs];have hla:(bt p x.id).length=n:=by rw[afa.length_eq];omega
   refine fin _ _ _ _ _ _ J' _ (bt p x.id) (.inr ⟨b,?_,?_,hb'⟩) rfl bS
   .grind
   grind
 grind
theorem Og{l:List Int}(hz:z∈l):Vm l (qG l z) z:=by
 unfold qG;cases hf:l.findIdx? fun x=>z==x with
 |none =>
  grind
 |some i =>
  obtain⟨hi,he,_⟩:=EW.1 hf
  have he:l[i]=z:=(eq_of_beq he).symm
  show Vm l ((l[(i+l.length-1)%l.length]?).getD 0) z
  rcases i with -|i
  .rw[M0 (show 0+l.length-1<l.length by omega),dw (show 0+l.length-1<l.length by omega)]
   cases l with
   |nil=>grind
   |cons y B =>
    subst he
    refine .inr ⟨B,rfl,?_⟩
    grind
  .have e1:(i+1+l.length-1)%l.length=i:=by rw[show i+1+l.length-1=i+l.length by omega,znj];exact M0 Z
   rw[e1,dw (show i<l.length by omega)]
   refine .inl ⟨l.take i,l.drop (i+1+1),?_⟩
   show l=l.take i++l[i]::z::l.drop (i+1+1)
   rw[←he,←EU hi,←EU (show i<l.length by omega),MJ]
def A7(p:Pn)(nx:List (Int×Int))(xs:List Int):Prop:=∀ z∈xs,gR 0 nx (iR z)=jU p (iR z)
theorem A7.put{p:Pn}{nx:List (Int×Int)}(h:A7 p nx xs):A7 p (mI nx (iR z) (jU p (iR z))) (xs++[z]):=fun y hy=>by
 rw[zdz];by_cases e:iR y=iR z
 .grind
 .rw[b9 e];rcases qY.1 hy with hy|hy
  .exact h y hy
  grind
theorem aX.prec{p:Pn}(h:aX p)(hx:x∈p.ns.l)(hz:z∈bt p x.id):qG (bt p x.id) z=jU p (iR z):=by rw[(h.fV (h.eE hx hz).1).1];exact(h.next hx (Og hz)).symm
theorem LN(hS:bk S)(p:Pn)(h0:aX p){nd:Nd}(ak:nd∈p.ns.l){m D:Nat}{ah:bq}{K:eU}(t:List IV)(q:aR 1 aK)(pz:q.l.length<=1000000)(hm:q.l.length+10<=m)(i:Nat)(x1:aP)(lv:IV)(J:aS)(nx:List (Int×Int))(bs:List Nat)(ck:Nat)(xs:List Int)(hO:bE aK 1 D 4 J lv xs)(hx:xs.length+q.l.length<=1000000)(hn:nx.length<=xs.length)(hqa:q.l=bt p nd.id)(qm:A7 p nx xs)
  (af:aN 72 t [(1,.ptrM D 0 0),(2,.nilsl),(4,lv),(5,.ptrM D 3 0),(8,q.v),(22,p.ns.v),(23,iv (p.ns.l.length:Nat)),(24,iv i)])
  (hK:∀ t' lv J nx bs ck,bE aK 1 D 4 J lv (xs++q.l)->nx.length<=(xs++q.l).length->A7 p nx (xs++q.l)->aN 72 t' [(1,.ptrM D 0 0),(2,.nilsl),(4,lv),(5,.ptrM D 3 0),(8,q.v),(22,p.ns.v),(23,iv (p.ns.l.length:Nat)),(24,iv i)]->K .normal ⟨t',p.o::x1::.map (eD nx) (eL (IV.int .i64) nx) bs ck::.cells [.mapM D 2]::J⟩) :
  Ex (aL aO S m) D ah m (i153.body.sub [1,1,1,1,0,1,0,0,1,1,0,0,1,1]) K ⟨t,p.o::x1::.map (eD nx) (eL (IV.int .i64) nx) bs ck::.cells [.mapM D 2]::J⟩:=by
 simp[za,zb,zf]at af
 have RZ:=q.eZ
 simp[i153,IC.sub,V0,Xa,af]
 refine zm q.l.length (fun k st=>∃(lv:IV)(J:aS)(nx:List (Int×Int))(bs:List Nat)(ck:Nat),bE aK 1 D 4 J lv (xs++q.l.take k)/\nx.length<=xs.length+k/\A7 p nx (xs++q.l.take k)/\st.aa=p.o::x1::.map (eD nx) (eL (IV.int .i64) nx) bs ck::.cells [.mapM D 2]::J/\aN 72 st.t [(1,.ptrM D 0 0),(2,.nilsl),(4,lv),(5,.ptrM D 3 0),(8,q.v),(22,p.ns.v),(23,iv (p.ns.l.length:Nat)),(24,iv i),(32,q.v),(33,iv (q.l.length:Nat)),(34,iv k)]) Z ⟨lv,J,nx,bs,ck,by grind,Z,by grind,rfl,by simp[V0,Xa,Xe,af,cZ]⟩ ?_
 clear af hO hn qm
 rintro k ⟨t,bJ⟩ KB hk ⟨lv,J,nx,bs,ck,hO,hn,qm,rfl,af⟩ gJ jL kP
 simp[za,zb,zf]at af
 have agh:∀{z:Int},q.l[k]?=some z->xs++q.l.take k++[z]=xs++q.l.take (k+1):=fun{z} hz=>by rw[jh,hz];simp
 by_cases h:k<q.l.length
 .have hx1:q.l[k]?=some q.l[k]:=dw h
  have hzm:q.l[k]∈bt p nd.id:=by grind
  generalize q.l[k]=z at hx1 hzm
  have TV:=h0.prec ak hzm
  rw[←hqa]at TV
  have Lh:=qm.put (z:=z)
  rw[agh hx1,←TV]at Lh
  have Lh:A7 p (mI nx (aT .i64 (0-z)) (qG q.l z)) (xs++q.l.take (k+1)):=Lh
  have hrd:bB (q.l.flatMap aK) (k*1) 1=some [.int .i64 z]:=(zd ze 0 1 hx1 Z).trans rfl
  have au:(xs++q.l.take k).length=xs.length+k:=by grind
  obtain⟨e,cH,J2,bz,cL⟩:=zI (Pre:=[p.o,x1,.map (eD nx) (eL (IV.int .i64) nx) bs ck,.cells [.mapM D 2]]) (n0:=J.length+1+1+1+1) (slot:=0) (k:=0) (ah:=ah) (R:=[.free]) ze hO (ys:=[z]) M (by grind) (by grind) rfl rfl
  simp[gu,fP,eT,jm,aK,zf,fB,gq,gF,eB]at bz
  rw[(show xs++q.l.take k++[z]=xs++q.l.take (k+1) by grind)]at cL
  obtain⟨bs',gX,CZ⟩:=Bq (u:=IV.int .i64) nx bs ck (aT .i64 (0-z)) (qG q.l z)
  have cp:=UP hS q z pz m Z
  simp[zf]at cp
  simp only[V0,Xa,Xe,af,h,zc q h,hrd,rep,zh,zl,zq,zw,bz,cp,(fun C n0 aJ aa t a b c=>CZ C D ah n0 2 aJ aa t a b c)]
  have hpl:=Oc nx (aT .i64 (0-z)) (qG q.l z)
  simp only[V0,Xa,Xe,af,(zt k)]
  exact gJ Z _ ⟨cH,_,_,bs',gX,cL.more _,Z,Lh,rfl,by simp[V0,Xa,Xe,af]⟩
 .simp[V0,Xa,af,h]
  refine jL _ _ ?_
  simp[V0]
  rw[(show k=q.l.length by omega),rD]at hO qm
  exact hK _ _ _ _ _ _ hO (by grind) qm xay
theorem LM(hS:bk S)(p:Pn)(h0:aX p)(gV:bL p)(ha:2*p.az.l.length<65536)(hna:2*p.az.l.length*p.ns.l.length<=900000):∃ N,∀ m,N<=m->∀(D:Nat)(ah:bq)(K:eU)(t:List IV)(x1:aP),
  aN 72 t [(1,.ptrM D 0 0),(2,.nilsl),(4,.nilsl),(5,.ptrM D 3 0)] ->
  (∀ t' lv J nx bs ck xs,bE aK 1 D 4 J lv xs->xs=dQ p->A7 p nx xs->xs.length<=2*p.az.l.length*p.ns.l.length->nx.length<=xs.length->aN 72 t' [(1,.ptrM D 0 0),(2,.nilsl),(4,lv),(5,.ptrM D 3 0)]->K .normal ⟨t',p.o::x1::.map (eD nx) (eL (IV.int .i64) nx) bs ck::.cells [.mapM D 2]::J⟩) ->
  Ex (aL aO S m) D ah m (i153.body.sub [1,1,1,1,0]) K ⟨t,p.o::x1::.map [] [] [] 0::.cells [.mapM D 2]::[]⟩:=by
 have har:∀ n∈p.ns.l,∃ N,∀ m,N<=m->∃ q:aR 1 aK,q.l=bt p n.id/\q.l.length<=2*p.az.l.length/\∀ d ah aJ aa id,aL aO S m d ah aJ aa id 186 [.agg p.c,.int .i64 n.id]=some (.r,q.v,aa):=fun n hn=>by let⟨q,h1,N,h3⟩:=tV hS p h0 gV ha hn;exact⟨N,fun m hm=>⟨q,h1,by rw[h1,(h0.around hn).1.length_eq];exact ZV p n.id,h3 m hm⟩⟩
 let⟨Na,hNa⟩:=ED p.ns.l har
 refine⟨Na+p.ns.l.length+200000,fun m hm D ah K t x1 af hK=>?_⟩
 simp[za,zb]at af
 have hnf:=p.ns.eZ
 have hI:=fun{D:Nat}{ah:bq}{K:eU}{nd:Nd}(ak:nd∈p.ns.l) t q pz hm i x1 lv J nx bs ck xs=>@LN S hS p h0 nd ak m D ah K t q pz hm i x1 lv J nx bs ck xs
 rw[show i153.body.sub [1,1,1,1,0]=.seq (i153.body.sub [1,1,1,1,0,0]) (.block 0 (.loop (.seq (i153.body.sub [1,1,1,1,0,1,0,0,0]) (.seq (i153.body.sub [1,1,1,1,0,1,0,0,1,0]) (.seq (.block 1 (.seq (i153.body.sub [1,1,1,1,0,1,0,0,1,1,0,0,0]) (.seq (i153.body.sub [1,1,1,1,0,1,0,0,1,1,0,0,1,0]) (i153.body.sub [1,1,1,1,0,1,0,0,1,1,0,0,1,1])))) (i153.body.sub [1,1,1,1,0,1,0,0,1,1,1]))))))from rfl]
 generalize i153.body.sub [1,1,1,1,0,1,0,0,1,1,0,0,1,1]=T at hI ⊢
 simp[i153,IC.sub,V0,Xa,Xb,af]
 refine zm p.ns.l.length (fun i st=>∃(lv:IV)(J:aS)(nx:List (Int×Int))(bs:List Nat)(ck:Nat)(xs:List Int),bE aK 1 D 4 J lv xs/\xs=(p.ns.l.take i).flatMap (fun n=>bt p n.id)/\A7 p nx xs/\xs.length<=2*p.az.l.length*i/\nx.length<=xs.length/\st.aa=p.o::x1::.map (eD nx) (eL (IV.int .i64) nx) bs ck::.cells [.mapM D 2]::J/\aN 72 st.t [(1,.ptrM D 0 0),(2,.nilsl),(4,lv),(5,.ptrM D 3 0),(22,p.ns.v),(23,iv (p.ns.l.length:Nat)),(24,iv i)]) Z ⟨.nilsl,[],[],[],0,[],.inl ⟨rfl,rfl⟩,by rfl,fun _ h=>(by grind),M,M,rfl,by simp[V0,Xa,Xe,af,cZ]⟩ ?_
 clear af
 rintro i ⟨t,aa⟩ KA hi ⟨lv,J,nx,bs,ck,xs,hO,hD,qm,hxl,hn,rfl,af⟩ bp bK bQ
 simp[za,zb,zf]at af
 have hmul:2*p.az.l.length*i<=2*p.az.l.length*p.ns.l.length:=Nat.mul_le_mul_left _ hi
 by_cases h:i<p.ns.l.length
 .have hx:p.ns.l[i]?=some p.ns.l[i]:=dw h
  let⟨q,hq1,lQ,Lg⟩:=hNa _ (gQ h) m Z
  have tL:=gQ h
  generalize p.ns.l[i]=x at hx Lg hq1 tL
  have hrd:bB (p.ns.l.flatMap Nd.c) (i*3) 3=some [.int .i64 x.id,.int .i64 x.at'.x,.int .i64 x.at'.y]:=xcn
  simp[Pn.c]at Lg
  have agu:2*p.az.l.length*(i+1)=2*p.az.l.length*i+2*p.az.l.length:=Nat.mul_succ _ _
  have agt:2*p.az.l.length*(i+1)<=2*p.az.l.length*p.ns.l.length:=Nat.mul_le_mul_left _ h
  simp[V0,Xa,Xb,Xe,af,h,zc p.ns h,hrd,Lg]
  refine hI tL _ q Z Z i x1 lv _ nx bs ck xs (hO.more _) Z hn hq1 qm xap fun t' cH J' nx' bs' gX uY hn' agq ht'=>?_
  simp[za,zb,zf]at ht'
  simp only[V0,Xa,ht',(zt i)]
  rw[mV]at hn'
  exact bp Z _ ⟨cH,J',nx',bs',gX,xs++q.l,uY,by rw[hD,hq1,jh,hx,oP,Bh,eT,jm,gF],agq,by grind,by grind,rfl,by simp[V0,Xa,Xe,ht']⟩
 .simp[V0,Xa,af,h]
  refine bK _ _ ?_
  simp[V0]
  rw[fT Z]at hD
  exact hK _ _ _ _ _ _ _ hO hD qm Z hn xay
theorem Dq(hS:bk S){fn:Int->Int}{D0 c:List Int}(hc:Sd fn D0 z c)(jM:fn (eV c)=z)(hm:c.length+9<=m)(hU:c.length<=1000000)(P J0:aS)(nx:List (Int×Int))(VV:List Nat)(VU:Nat)(hP2:P[2]?=some (.map (eD nx) (eL (IV.int .i64) nx) VV VU))(hP3:P[3]?=some (.cells [.mapM D 2]))(qm:∀ k∈c,gR 0 nx k=fn k)(sn:List (Int×Bool))(hsn:∀ k∈c,gR false sn k=false)(bs:List Nat)(ck:Nat)(aJ:aS) :
  ∃ cH J' EE bs' gX,(∀ id,aL aO S m D ah aJ (P++.map (eD sn) (eL IV.bool sn) bs ck::.cells [.mapM D P.length]::J0) id 188 [.int .i64 z,.ptrM D (P.length+1) 0,.ptrM D 3 0]=some (.x,cH,P++.map (eD EE) (eL IV.bool EE) bs' gX::.cells [.mapM D P.length]::J'))/\Hf aK 1 D (P.length+2) J0.length J' cH c/\(∀ j,j<J0.length->J'[j]?=J0[j]?)/\J0.length<=J'.length/\(∀ k,gR false EE k=(c.contains k||gR false sn k)):=by
 obtain⟨m,rfl⟩:=gv m 1
 have f0:∀ x R,(P++x::R)[P.length]?=some x:=fun x R=>by simp
 have f1:∀ x y R,(P++x::y::R)[P.length+1]?=some y:=fun x y R=>by simp
 have hPl:3<P.length:=(ew.1 hP3).1
 have f2:∀ R,(P++R)[2]?=some (.map (eD nx) (eL (IV.int .i64) nx) VV VU):=fun R=>by grind
 have f3:∀ R,(P++R)[3]?=some (.cells [.mapM D 2]):=fun R=>by grind
 have s0:∀ x y R,(P++x::R).set P.length y=P++y::R:=fun x y R=>by simp
 have main:∃ v aU,(∀ id,aL aO S (m+1) D ah aJ (P++.map (eD sn) (eL IV.bool sn) bs ck::.cells [.mapM D P.length]::J0) id 188 [.int .i64 z,.ptrM D (P.length+1) 0,.ptrM D 3 0]=some (.x,v,aU))/\(∃ J' EE bs' gX,aU=P++.map (eD EE) (eL IV.bool EE) bs' gX::.cells [.mapM D P.length]::J'/\Hf aK 1 D (P.length+2) J0.length J' v c/\(∀ j,j<J0.length->J'[j]?=J0[j]?)/\J0.length<=J'.length/\(∀ k,gR false EE k=(c.contains k||gR false sn k))):=by
  refine yq (i:=i188) (hS _ _ M M M M) rfl rfl (bP rfl) fun t af=>?_;simp[V2,Xb,i188]at af;simp only[i188,V0,seval];refine zn (fun jj st=>∃(i:Nat)(z1:Int)(J:aS)(s1:List (Int×Bool))(bs:List Nat)(ck:Nat)(lv:IV),c.length-i<=jj/\i<=c.length/\c[i]?.getD z=z1/\Hf aK 1 D (P.length+2) J0.length J lv (c.take i)/\(∀ j,j<J0.length->J[j]?=J0[j]?)/\J0.length<=J.length/\(∀ k,gR false s1 k=((c.take i).contains k||gR false sn k))/\st.aa=P++.map (eD s1) (eL IV.bool s1) bs ck::.cells [.mapM D P.length]::J/\aN 19 st.t [(0,.int .i64 z1),(1,.ptrM D (P.length+1) 0),(2,.ptrM D 3 0),(4,lv)]) c.length Z ⟨0,z,J0,sn,bs,ck,.nilsl,Z,RH _,by rw[hc.head];rfl,.inl ⟨by rfl,rfl⟩,fun _ _=>rfl,cI _,fun k=>by rfl,rfl,bS⟩ ?_;clear af;rintro jj ⟨t,aa⟩ KA ⟨i,z1,J,s1,bs,ck,lv,hjj,hi,hz1,hO,hk,hlJ,hx,rfl,af⟩ bp bK bQ;simp[za,zb]at af;have evS:∀(R:aS)(C:Call)(n0:Nat)(aa:aS)(t:List IV)(a b:bD),ρ t a=.mapM D P.length->ρ t b=.int .i64 z1->bY C D ah n0 (P++.map (eD s1) (eL IV.bool s1) bs ck::R) aa t (.lookup (.bool false) (false,[1]) false a b)=some (.r,.bool (gR false s1 z1),aa):=fun R C n0 aa t a b h1 h2=>Ya (bs:=bs) (ck:=ck) false z1 rfl h1 h2 (by simp[look,if_true,f0]);have evN:∀(R:aS)(C:Call)(n0:Nat)(aa:aS)(t:List IV)(a b:bD),ρ t a=.mapM D 2->ρ t b=.int .i64 z1->bY C D ah n0 (P++R) aa t (.lookup (.int .i64 0) (false,[1]) false a b)=some (.r,.int .i64 (gR 0 nx z1),aa):=fun R C n0 aa t a b h1 h2=>Ya (u:=IV.int .i64) (bs:=VV) (ck:=VU) 0 z1 rfl h1 h2 (by simp[look,if_true,f2]);by_cases hil:i<c.length
  .have R5:c[i]?=some c[i]:=dw hil;have aeu:c[i]=z1:=by grind
   rw[aeu]at R5;have hnot:(c.take i).contains z1=false:=by
    rw[Vw];intro e;let⟨j,hj⟩:=rj (zk5.1 e);have hji:j<i:=by grind
    rw[znr hji]at hj;let⟨l1,e1⟩:=ew.1 hj;have:=(zl6 hc.nodup).1 (e1.trans aeu.symm);omega
   have pL:c.take i++[z1]=c.take (i+1):=by rw[jh,R5];rfl
   have au:(c.take i).length=i:=by grind
   have hnext:c[i+1]?.getD z=gR 0 nx z1:=by
    rw[qm z1 (by grind)];by_cases hl:i+1<c.length
    .rw[hc.step i z1 R5 hl];rfl
    .have e:i=c.length-1:=Z;rw[List.getElem?_eq_none Z];have hla:=hc.last;grind
   obtain⟨bs',gX,CZ⟩:=Bq (u:=IV.bool) s1 bs ck z1 true;obtain⟨e,cH,J2,bz,cL,hk2,iN⟩:=KZ (Pre:=P++[.map (eD (mI s1 z1 true)) (eL IV.bool (mI s1 z1 true)) bs' gX,.cells [.mapM D P.length]]) (n0:=P.length+(J.length+1+1)) (slot:=0) (k:=0) (ah:=ah) (R:=[.free]) ze M hO hlJ (ys:=[z1]) M (by grind) Z rfl rfl;simp[mo,gu,fP,eT,jm,aK,zf,fB,gq,gF,eB]at bz;rw[pL]at cL;simp[V0,seval,af,f0,f1,f3,evS,evN,(show gR false s1 z1=false by grind),(fun C n0 aJ aa t a b c=>CZ C D ah n0 P.length aJ aa t a b c),s0,rep,zh,zl,zq,zw,bz];refine bp _ (c.length-(i+1)) Z ⟨i+1,gR 0 nx z1,J2,mI s1 z1 true,bs',gX,cH,Z,Z,hnext,cL,fun j hj=>?_,by grind,fun k=>?_,rfl,bS⟩
   .grind
   .rw[zdz,←pL,hx k];grind
  .rw[(show i=c.length by omega),rD]at hO hx;simp[V0,seval,af,f1,evS,(show gR false s1 z1=true by rw[hx,(show z1=z by grind),zk5.2 (og hc.head)];rfl)];refine bK _ _ ?_;simp only[V0,seval,af,ya];grind
 obtain⟨v,aU,h1,J',EE,bs',gX,rfl,h2,h3,h4,h5⟩:=main
 exact⟨v,J',EE,bs',gX,h1,h2,h3,h4,h5⟩
structure qh(p:Pn)(xs:List Int)(i:Nat)(sn:List (Int×Bool))(o:List (List Int)):Prop where
 ex:∃ met,gK (dV (dF p) (dQ p)) id (xs.drop i) met o=gK (dV (dF p) (dQ p)) id xs [] []/\(∀ k,gR false sn k=met.contains k)/\∀ k∈met,∃ w∈aZ p,k∈dV (dF p) (dQ p) w/\∀ x∈dV (dF p) (dQ p) w,x∈met
section
variable {p:Pn} {sn:List (Int×Bool)} {o:List (List Int)}
theorem qh.zero:qh p xs 0 [] []:=⟨[],by rfl,fun _=>rfl,fun _ h=>absurd h gm⟩
theorem qh.done(h:qh p xs i sn o)(hi:xs.length<=i):o=gK (dV (dF p) (dQ p)) id xs [] []:=by obtain⟨met,h1,_⟩:=h.ex;rw[Sj hi]at h1;exact h1
theorem qh.old(h:qh p xs i sn o)(hz:xs[i]?=some z)(hs:gR false sn z=true):qh p xs (i+1) sn o:=by let⟨met,h1,h2,h3⟩:=h.ex;let⟨hl,he⟩:=ew.1 hz;rw[EU hl,he]at h1;rw[gK]at h1;rw[bU (by grind)]at h1;exact⟨met,h1,h2,h3⟩
theorem qh.free(h:qh p xs i sn o)(h0:aX p)(hz:z∈aZ p)(hs:gR false sn z=false):∀ k∈dV (dF p) (dQ p) z,gR false sn k=false:=fun k hk=>by let⟨met,h1,h2,h3⟩:=h.ex;rw[h2]at hs ⊢;rw[Vw];intro e;let⟨w,hw,hkw,hall⟩:=h3 k (zk5.1 e);have:=hall z ((h0.Gu hz hw hk hkw z).1 (h0.NG hz));grind
theorem qh.new(h:qh p xs i sn o)(h0:aX p)(hx:xs[i]?=some z)(hz:z∈aZ p)(hs:gR false sn z=false)(EE:List (Int×Bool))(hsn:∀ k,gR false EE k=((dV (dF p) (dQ p) z).contains k||gR false sn k)):qh p xs (i+1) EE (o++[dV (dF p) (dQ p) z]):=by
 let⟨met,h1,h2,h3⟩:=h.ex;let⟨hl,he⟩:=ew.1 hx;rw[EU hl,he]at h1;rw[gK]at h1;rw[b9 (by grind)]at h1;refine⟨met++id (dV (dF p) (dQ p) z),?_,fun k=>?_,fun k hk=>?_⟩
 .omega
 .grind
 grind
end
theorem Qv(hS:bk S){p:Pn}(h0:aX p){m D:Nat}{ah:bq}{K:eU}(B:Nat)(xs:List Int)(hm:B+xs.length+10<=m)(hU:B<=1000000)(hB:∀ z∈aZ p,(dV (dF p) (dQ p) z).length<=B)(hxl:xs.length<=1000000)(P:aS)(nx:List (Int×Int))(VV:List Nat)(VU:Nat)(hP2:P[2]?=some (.map (eD nx) (eL (IV.int .i64) nx) VV VU))(hP3:P[3]?=some (.cells [.mapM D 2]))(qm:∀ k∈aZ p,gR 0 nx k=jU p k)(hxU:∀ z∈xs,z∈aZ p)
  (dv:IV) (hdv:(xs=[]/\dv=.nilsl)∨∃ b,dv=.slM D b 0 xs.length xs.length 1 false/\P[b]?=some (.cells (xs.flatMap aK))) (t:List IV) (af:aN 72 t [(2,.nilsl),(4,dv),(11,.ptrM D (P.length+1) 0),(12,.fn 188 [] [.ptrM D (P.length+1) 0,.ptrM D 3 0])])
  (hK:∀ t' lv sn bs ck J L,bE Sb 1 D (P.length+2) J lv L->aeb D (P.length+2) B xs J L->L.map Prod.snd=gK (dV (dF p) (dQ p)) id xs [] []->L.length<=xs.length->aN 72 t' [(2,lv)]->K .normal ⟨t',P++.map (eD sn) (eL IV.bool sn) bs ck::.cells [.mapM D P.length]::J⟩) :
  Ex (aL aO S m) D ah m (i153.body.sub [1,1,1,1,1,1,1,1,0]) K ⟨t,P++.map [] [] [] 0::.cells [.mapM D P.length]::[]⟩:=by
 simp[za,zb]at af
 have hlen:∀ aJ aa,iY D ah aJ aa 1 dv=some (.p,.int .i64 (xs.length:Nat),aa):=fun aJ aa=>by rcases hdv with⟨rfl,rfl⟩|⟨b,rfl,_⟩<;>rfl
 have f1:∀ x y R,(P++x::y::R)[P.length+1]?=some y:=fun x y R=>by simp
 simp[i153,IC.sub,V0,seval,af,hlen]
 refine zm xs.length (fun i st=>∃(lv:IV)(J:aS)(sn:List (Int×Bool))(bs:List Nat)(ck:Nat)(L:List (IV×List Int)),bE Sb 1 D (P.length+2) J lv L/\aeb D (P.length+2) B xs J L/\qh p xs i sn (L.map Prod.snd)/\L.length<=i/\st.aa=P++.map (eD sn) (eL IV.bool sn) bs ck::.cells [.mapM D P.length]::J/\aN 72 st.t [(2,lv),(4,dv),(11,.ptrM D (P.length+1) 0),(12,.fn 188 [] [.ptrM D (P.length+1) 0,.ptrM D 3 0]),(54,dv),(55,iv (xs.length:Nat)),(56,iv i)]) Z ⟨.nilsl,[],[],[],0,[],.inl ⟨rfl,rfl⟩,fun _ h=>(by grind),qh.zero,M,rfl,by simp[V0,seval,af,cZ]⟩ ?_
 clear af
 rintro i ⟨t,aa⟩ KA hi ⟨lv,J,sn,bs,ck,L,hO,hL,hG,hLl,rfl,af⟩ bp bK bQ
 simp[za,zb,zf]at af
 by_cases h:i<xs.length
 .have hx1:xs[i]?=some xs[i]:=dw h
  have hz:xs[i]∈xs:=gQ h
  generalize xs[i]=z at hx1 hz
  obtain⟨b,rfl,hb⟩:∃ b,dv=.slM D b 0 xs.length xs.length 1 false/\P[b]?=some (.cells (xs.flatMap aK)):=by grind
  have th:b<P.length:=(ew.1 hb).1
  have fb:∀ R,(P++R)[b]?=some (.cells (xs.flatMap aK)):=fun R=>by grind
  have hrd:bB (xs.flatMap aK) (i*1) 1=some [.int .i64 z]:=(zd ze 0 1 hx1 Z).trans rfl
  have kX:∀ aa,cu aa 1 (.slM D b 0 xs.length xs.length 1 false) (.int .i64 (i:Int))=some (.p,.ptrM D b (0+i*1),aa):=fun aa=>zo h
  simp only[eB]at kX
  have hw:=zt i
  have evS:∀(R:aS)(C:Call)(n0:Nat)(aa:aS)(t:List IV)(a b:bD),ρ t a=.mapM D P.length->ρ t b=.int .i64 z->bY C D ah n0 (P++.map (eD sn) (eL IV.bool sn) bs ck::R) aa t (.lookup (.bool false) (false,[1]) false a b)=some (.r,.bool (gR false sn z),aa):=fun R C n0 aa t a b h1 h2=>Ya (bs:=bs) (ck:=ck) false z rfl h1 h2 (by simp[look,if_true,(fun x R=>by simp:∀ x R,(P++x::R)[P.length]?=some x)])
  cases hs:gR false sn z
  .have OW:=hxU z hz
   let⟨qy,jM⟩:=h0.vB OW
   have hcB:=hB z OW
   have hG2:=hG.new h0 hx1 OW hs
   obtain⟨r,hr⟩:∃ r,dV (dF p) (dQ p) z=z::r:=by
    have:=qy.head;cases sD:dV (dF p) (dQ p) z with
    |nil=>grind
    |cons y r=>grind
   obtain⟨cH,J',EE,bs',gX,hc,hOB,hkeep,hJl,ahk⟩:=Dq (ah:=ah) hS (m:=m) qy jM Z Z P (J++[.free,.free]) nx VV VU hP2 hP3 (fun k hk=>qm k (qy.sub k hk)) sn (hG.free h0 OW hs) bs ck (P++.map (eD sn) (eL IV.bool sn) bs ck::.cells [.mapM D P.length]::(J++[.free,.free]))
   rw[hr]at hOB hcB
   obtain⟨R',rfl⟩:=KU hkeep hJl
   obtain⟨b2,fE,_,rfl,Wn⟩:∃ b,(J++[aP.free,.free]).length<=b/\(z::r)≠[]/\cH=.slM D (P.length+2+b) 0 (z::r).length (z::r).length 1 false/\(J++[.free,.free]++R')[b]?=some (.cells ((z::r).flatMap aK)):=by
    rcases hOB with⟨h,_⟩|h
    .grind
    omega
   obtain⟨e,qw,J2,bz,cL,hk2,iN⟩:=KY (Pre:=P++[.map (eD EE) (eL IV.bool EE) bs' gX,.cells [.mapM D P.length]]) (n0:=P.length+(J.length+1+1)) (slot:=1) (k:=1) (ah:=ah) (R:=.free::.free::R') Ju M hO (ys:=[(.slM D (P.length+2+b2) 0 (z::r).length (z::r).length 1 false,z::r)]) M (by grind) Z rfl rfl
   simp[mo,gu,fP,eT,jm,Sb,fB,gq,gF,eB]at bz
   simp only[mo,gu,fP]at hc Wn
   simp only[mV,fB,gq]at fE
   generalize hv:(IV.slM D (P.length+2+b2) 0 (r.length+1) (r.length+1) 1 false)=cH at bz
   rw[(show(IV.slM D (P.length+2+b2) 0 (z::r).length (z::r).length 1 false)=cH by omega)]at hc
   have sc:cH.scalar=true:=by rw[←hv];rfl
   have cl:cH.cells=[cH]:=by rw[←hv];rfl
   simp only[V0,seval,hc,rep,zh,zl,zq,ZA, *]
   refine bp Z _ ⟨qw,J2,EE,bs',gX,_,cL,fun y hy=>?_,by simp_all,by grind,rfl,bS⟩
   rcases qY.1 hy with hy|hy
   .let⟨⟨b,h1,h2⟩,⟨h',r',h3,h4⟩,h5⟩:=hL y hy
    have hbJ:=(ew.1 h2).1
    refine⟨⟨b,h1,hk2 b _ Z (by grind) ?_⟩,⟨h',r',h3,h4⟩,h5⟩
    rw[h3]
    exact WE hL
   .obtain rfl:=MG.1 hy
    refine⟨⟨b2,rfl,hk2 b2 _ Z Wn (WE hL)⟩,⟨z,r,rfl,hz⟩,hcB⟩
  .simp only[V0,seval, *]
   exact bp Z _ ⟨lv,J,sn,bs,ck,L,hO,hL,hG.old hx1 hs,Z,rfl,bS⟩
 .simp[V0,seval,af,h]
  refine bK _ _ ?_
  simp[V0,seval]
  exact hK _ _ _ _ _ _ _ hO hL (hG.done Z) Z bS
def vw{p:Pn}:(aZ p).length=2*p.az.l.length:=xcv
theorem aX.LL{p:Pn}(h:aX p):(aZ p).Pairwise (·<·):=by
 have aey:=h.nice.Rq;rw[rE]at aey;unfold aZ;rw[zks];refine⟨?_,?_,fun a ha b hb=>?_⟩
 .rw[rE,zlw];refine aey.imp_of_mem fun{a b} ha hb aq=>?_;rw[h.ng ha,h.ng hb];omega
 .grind
 .obtain⟨x,hx,rfl⟩:=kO.1 ha;obtain⟨y,hy,rfl⟩:=kO.1 hb;rw[Si]at hx;rw[h.ng hx];have:=h.pid x hx;have:=h.pid y hy;omega
theorem aX.Du{p:Pn}(h:aX p):(dQ p).Perm (aZ p):=by
 refine(zl2 ?_ h.qW).2 fun y=>?_
 .unfold dQ;rw[List.Nodup,zlx];constructor
  .intro x hx;exact(h.around hx).1.nodup_iff.2 h.nS
  .have hpn:=h.nice.VT;rw[rE]at hpn;refine hpn.imp_of_mem fun{x y} hx hy hxy u hu v hv e=>?_;subst e;obtain⟨_,a2⟩:=h.eE hx hu;obtain⟨_,b2⟩:=h.eE hy hv;have:=zbs h.pts hx hy (by grind) (by grind);omega
 .rw[h.jd];constructor
  .intro hy;let⟨x,hx,hy⟩:=oQ.1 hy;exact(h.eE hx hy).1
  .intro hy;obtain⟨x,hx,_,hm⟩:=h.node hy;exact oQ.2 ⟨x,hx,hm⟩
theorem aX.wh{p:Pn}(h:aX p)(hp:xs.Perm (dQ p))(hs:xs.Pairwise (·<=·)):xs=aZ p:=by
 have hpd:=hp.trans h.Du;have au:xs.Pairwise (·<·):=(hs.and (hpd.nodup_iff.2 h.qW)).imp fun{a b} aq=>by omega
 exact AL au h.LL fun y=>hpd.mem_iff
def qL(l:List Int):aR 1 aK:=if h:l.length<9223372036854775808 then bZ ze l h else bZ ze [] M
theorem aga{l:List Int}(h:l.length<9223372036854775808):(qL l).l=l:=by unfold qL;rw[dif_pos h,zM]
theorem Jt{n D:Nat}{aa:aS}(hn:2<=n):∀{L:List (IV×List Int)},(∀ z∈L,(∃ b,z.1=.slM D b 0 z.2.length z.2.length 1 false/\aa[b]?=some (.cells (z.2.flatMap aK)))/\z.2.length<9223372036854775808/\z.2≠[])->(L.flatMap Sb).mapM (freeze n D aa)=some ((L.map fun z=>qL z.2).flatMap gp)
 |[],_=>rfl
 |z::L,h=>by
  have h2:=Jt hn (L:=L) fun x hx=>h x (tj _ hx);let⟨⟨b,hv,hb⟩,hl,hne⟩:=h z (qj ..);have hz:=yy (g:=aK) (Pre:=[]) (J:=aa) (d:=D) (m:=n) (lv:=z.1) (xs:=z.2) ze (fun a x hx=>by
   simp[aK,eG,gm,gw]at hx;subst hx;exact zp) hn hl (.inr ⟨b,hne,by grind,hb⟩)
  rw[fP]at hz;simp[eT,mQ,(show qL z.2=bZ ze z.2 hl by unfold qL;grind),Sb,gp,gu,fP,mq,hz,nY,nZ,iD];grind
theorem zgi(p:Pn):(bn p).length<=2*p.az.l.length:=by have h2:=yV (dV (dF p) (dQ p)) id (aZ p) [] [];unfold bn;rw[vw]at h2;grind
theorem tS(hS:bk S)(De:∀ args,S 185 args=none)(p:Pn)(h0:aX p)(hal:p.az.l.length<=200)(h1:p.ns.l.length<=1000000)(gV:bL p)(ha:2*p.az.l.length<65536)(hna:2*p.az.l.length*p.ns.l.length<=900000)
  (hp:∃ Np,aM S Np 185 [.agg p.c] (.int .i64 0)):∃ cs:aR 1 gp,cs.l.map (·.l)=bn p/\∃ N,aM S N 153 [.agg p.c] (.tuple [cs.v,.int .i64 0]):=by
 let⟨Np,hp⟩:=hp
 let⟨Nn,hN0⟩:=LM hS p h0 gV ha hna
 have hcx:((bn p).map qL).length<9223372036854775808:=by have:=zgi p;grind
 refine⟨bZ zx _ hcx,?_,Np+Nn+600000,fun m hm d ah aJ aa id=>?_⟩
 .rw[zM,MV]
  conv=>rhs;rw[←List.map_id (bn p)]
  exact zm5 fun l hl=>aga (by have:=(h0.pF hal l hl).1;omega)
 obtain⟨m,rfl⟩:=gv m 2
 have main:∃ r,aL aO S (m+1+1) d ah aJ aa id 153 [.agg p.c]=some r/\r=(dI.r,.tuple [(bZ zx _ hcx).v,.int .i64 0],aa):=by
  refine zF (i:=i153) (hS _ _ M M M M) rfl Δ (bP rfl) fun t af=>?_;simp[slotsOf,za,zb,i153,Pn.c]at af;generalize(fun l=>if l=d then aJ else ah l:bq)=bH
  have cp:=fun dd oo aJ aa id=>hp (m+1) Z dd oo aJ aa id;have hL0:=@hN0 (m+1) Z;simp[Pn.c]at cp;have hlv:∀(o:aS)(v w:IV),freeze (m+1) (d+1) o v=some w->leave (m+1) d o aa id 0 v=some (.r,w,aa):=fun o v w h=>by simp[leave,h]
  have fin:∀ t' (O:aS) (lv:IV),freeze m (d+1) O lv=some (bZ zx _ hcx).v->aN 72 t' [(2,lv),(3,.int .i64 0)]->(Out.ret=.normal∨Out.ret=.ret)/\∃ w r,bh (d+1) bH ⟨t',O⟩ i153.res=some w/\leave (m+1) d O aa id i153.mode w=some r/\r=(dI.r,.tuple [(bZ zx _ hcx).v,.int .i64 0],aa):=fun t' O lv hf ht=>by
   simp[za,zb]at ht;obtain⟨m,rfl⟩:=gv m 1;have hfz:freeze (m+1+1) (d+1) O (.tuple [lv,.int .i64 0])=some (.tuple [(bZ zx _ hcx).v,.int .i64 0]):=by have h2:freeze (m+1) (d+1) O (.int .i64 0)=some (.int .i64 0):=rfl;simp only[freeze,mq,qi,nY,nZ,iD]at hf ⊢;grind
   refine⟨.inr rfl,.tuple [lv,.int .i64 0],_,?_,hlv _ _ _ hfz,rfl⟩;simp[i153,V0,seval,ht]
  suffices jc:∀ K:eU,(∀ t' (O:aS) (lv:IV),freeze m (d+1) O lv=some (bZ zx _ hcx).v->aN 72 t' [(2,lv),(3,.int .i64 0)]->K .ret ⟨t',O⟩)->Ex (aL aO S (m+1)) (d+1) bH (m+1) i153.body K ⟨t,[]⟩from jc _ fin
  clear fin;intro K fin;rw[show i153.body=.seq (i153.body.sub [0]) (.seq (.seq (i153.body.sub [1,0,0]) (.seq (i153.body.sub [1,0,1,0]) (i153.body.sub [1,0,1,1]))) (.seq (i153.body.sub [1,1,0]) (.seq (i153.body.sub [1,1,1,0]) (.seq (i153.body.sub [1,1,1,1,0]) (.seq (i153.body.sub [1,1,1,1,1,0]) (.seq (i153.body.sub [1,1,1,1,1,1,0]) (.seq (i153.body.sub [1,1,1,1,1,1,1,0]) (.seq (i153.body.sub [1,1,1,1,1,1,1,1,0]) (i153.body.sub [1,1,1,1,1,1,1,1,1])))))))))from rfl];have hLp:=fun{K:eU} B xs hm hU hB hxl P nx VV VU hP2 hP3 qm hxU dv hdv t af hK=>@Qv S hS p h0 (m+1) (d+1) bH K B xs hm hU hB hxl P nx VV VU hP2 hP3 qm hxU dv hdv t af hK;generalize i153.body.sub [1,1,1,1,0]=T at hL0 ⊢;generalize i153.body.sub [1,1,1,1,1,1,1,1,0]=T2 at hLp ⊢;have cmp:∀ a b,(IV.mapM a b).cells=[.mapM a b]:=fun _ _=>rfl;have smp:∀ a b,(IV.mapM a b).scalar=true:=fun _ _=>rfl;have he:((0:Int) != 0)=false:=rfl;simp[i153,IC.sub,V0,seval, *];refine hL0 (d+1) bH _ _ _ bS fun t' lv J nx bs ck xs hO hD qm hl hnl ht=>?_;clear af;simp[za,zb]at ht;have hxl:xs.length<65536:=by rw[hD,h0.Du.length_eq,vw];omega
  have key:∀ W:aS,W=(p.o::.free::.map (eD nx) (eL (IV.int .i64) nx) bs ck::.cells [.mapM (d+1) 2]::(J++[.free]))->∃(xs':List Int)(J':aS),(xs'.Perm xs/\xs'.Pairwise (·<=·))/\(∀ id,aL aO S (m+1) (d+1) bH W W id 149 [lv]=some (.x,.tuple [],p.o::.free::.map (eD nx) (eL (IV.int .i64) nx) bs ck::.cells [.mapM (d+1) 2]::J'))/\((xs'=[]/\lv=.nilsl)∨∃ b,lv=.slM (d+1) (b+1+1+1+1) 0 xs'.length xs'.length 1 false/\J'[b]?=some (.cells (xs'.flatMap aK))):=by
   intro W hW;rcases hO with⟨rfl,rfl⟩|⟨b,hne,rfl,hb⟩
   .obtain⟨J',hs⟩:=uM (d:=d+1) (ah:=bH) (aJ:=W) (aa:=W) hS (m:=m+1) Z;simp_all
   .have fE:(J++[aP.free])[b]?=some (.cells (xs.flatMap aK)):=by grind
    have th:=(ew.1 hb).1;have hWl:4+b<W.length:=by grind
    have hWb:W[4+b]?=some (.cells (xs.flatMap aK)):=by grind
    have hs:=fun id=>Ir (d:=d+1) (ah:=bH) (cp:=xs.length) (tg:=false) hS hWl xs Z (fun h=>hne (EC h)) (m:=m+1) Z W [] id;rw[gF,Jz hWb]at hs;have hp:=y9 xs;refine⟨jP xs,(J++[aP.free]).set b (.cells ((jP xs).flatMap aK)),⟨hp,Y4 xs⟩,fun id=>?_,.inr ⟨b,by rw[hp.length_eq,show 4+b=b+1+1+1+1 by omega],?_⟩⟩
    .have hbk:Bk W (4+b) ((jP xs).flatMap aK)=p.o::.free::.map (eD nx) (eL (IV.int .i64) nx) bs ck::.cells [.mapM (d+1) 2]::(J++[aP.free]).set b (.cells ((jP xs).flatMap aK)):=by rw[Bk,hW,show 4+b=b+1+1+1+1 by omega];rfl
     grind
    grind
  let⟨xs',J',iM,hs,hdv⟩:=key _ rfl;let⟨iM,TO⟩:=iM;have hxR:xs'=aZ p:=h0.wh (hD▸iM) TO;have Lh:∀ k∈aZ p,gR 0 nx k=jU p k:=fun k hk=>by let⟨e1,R4⟩:=h0.fV (h0.jd.1 hk);have hm1:iR k∈xs:=iM.mem_iff.1 (by rw[hxR,e1];exact h0.jd.2 R4);have:=qm _ hm1;rw[e1,(h0.fV R4).1,Sf]at this;omega
  have hlx:xs'.length=xs.length:=iM.length_eq;clear key;simp[V0,seval,cmp,smp,ht,hs];have e0:∀ R:aS,(p.o::.free::.map (eD nx) (eL (IV.int .i64) nx) bs ck::.cells [.mapM (d+1) 2]::(J'++R))=(p.o::.free::.map (eD nx) (eL (IV.int .i64) nx) bs ck::.cells [.mapM (d+1) 2]::J')++R:=fun R=>rfl;generalize hP:(p.o::.free::.map (eD nx) (eL (IV.int .i64) nx) bs ck::.cells [.mapM (d+1) 2]::J')=P at e0;have hPl:P.length=J'.length+1+1+1+1:=by grind
  rw[e0,←hPl];refine hLp 512 xs' Z Z (fun z hz=>by
   obtain⟨qy,_⟩:=h0.vB hz;have h2:=qy.nodup.length_le_of_subset fun x hx=>qy.sub x hx;have h3:(aZ p).length=2*p.az.l.length:=xcv
   omega) Z P nx bs ck (by grind) (by grind) Lh (fun z hz=>by grind) lv ?_ _ bS fun t2 qw sn bs2 ck2 J2 L cL hL2 hG2 hLl ht2=>?_
  .grind
  .clear ht;simp[za,zb]at ht2;obtain⟨m,rfl⟩:=gv m 1;have ac3:∀(b:Nat)(x y z:aP),J2[b]?=some z->(P++x::y::J2)[P.length+2+b]?=some z:=fun b x y z h=>by grind
   have ae5:=Jt (n:=m) (D:=d+1) (aa:=P++.map (eD sn) (eL IV.bool sn) bs2 ck2::.cells [.mapM (d+1) P.length]::J2) Z (L:=L) fun z hz=>by let⟨⟨b,h1,h2⟩,⟨h',r',h3,h4⟩,h5⟩:=hL2 z hz;grind
   have hLc:L.map Prod.snd=bn p:=by rw[hG2,hxR];rfl
   have jM:(bn p).length=L.length:=by grind
   rw[(show(L.map fun z=>qL z.2)=(bn p).map qL by rw[←hLc,MV];rfl)]at ae5;simp[V0,seval,ht2];refine fin _ _ qw ?_ bS;let⟨cs,hce⟩:∃ cs,cs=(bn p).map qL:=⟨_,rfl⟩;have jM:cs.length=L.length:=by grind
   have ae7:=ae5;rw[←hce]at ae7;rw[(show(bZ zx _ hcx).v=(bZ zx cs Z).v by grind)];rcases cL with⟨rfl,rfl⟩|⟨b,hne,rfl,hb⟩
   .have:cs=[]:=by grind
    subst this;rfl
   .rw[Ue (ac3 b _ _ _ hb) (zj Ju |>.trans Z) ae7];cases cs with
    |nil=>grind
    |cons c cs=>rw[←jM];rfl
 grind
def Cq(p:Pn):List (List Int):=(bn p).filter fun c=>decide (0<jv p c)
theorem aX.Kq{p:Pn}(h:aX p)(hz:z∈aZ p):eC p z=iy p z:=by
 obtain⟨a,ha,aq,hsg,hok,_⟩:=h.p7 hz;unfold eC iy;rw[hok,bV,aq];rcases hsg with⟨e,hp⟩|⟨e,hp⟩
 .grind
 .have hid:=h.pid a ha;have hng:iR z=a.id:=by rw[e];exact h.ng2 ha
  grind
theorem IX{p:Pn}{os:List (List Int)}{a:Ar}(h:a.ic.l.map (·.l)=(bn p).filter fun c=>decide (jv p c<=0)&&jo p os (gH p c)==i):(a.ic.l.all fun c=>dB p c.l f)=true↔∀ c∈bn p,jv p c<=0->jo p os (gH p c)=i->dB p c f=true:=by
 rw[nu];constructor
 .intro hc c hm h1 h2;have:c∈a.ic.l.map (·.l):=by grind
  grind
 .intro hc x hx;have:x.l∈a.ic.l.map (·.l):=W7 hx;grind
theorem PR{p:Pn}(hR:JO p As):fcP p (dN p 0 As [])=true↔sW p (Cq p):=by
 cases As with
 |nil=>have:=hR.len;grind
 |cons a0 l =>
  have hlen:l.length=(Cq p).length:=by have:=hR.len;rw[fB]at this;unfold Cq;omega
  let⟨t0,o0,i0⟩:=hR.el 0 a0 rfl
  have hel:∀(k:Nat)(a:Ar),l[k]?=some a->a.oc.l=((Cq p)[k]?).getD []/\a.ic.l.map (·.l)=((bn p).filter fun c=>decide (jv p c<=0)&&jo p (Cq p) (gH p c)==k+1):=fun k a ha=>by obtain⟨_,e2,e3⟩:=hR.el (k+1) a (by grind);exact⟨e2,e3⟩
  have gU:∀ k,k<l.length->∃ a c,l[k]?=some a/\(Cq p)[k]?=some c/\a.oc.l=c:=fun k hk=>by grind
  have hfo:∀ a:Ar,nO p a=WB p a.oc.l:=fun _=>rfl
  have hmap:l.map (nO p)=(Cq p).map (WB p):=by refine Hj fun k=>?_;grind
  have ago:mS p { a0 with tw:=j7 p 0 a0 }=true↔∀ c∈bn p,jv p c<=0->jo p (Cq p) (gH p c)=0->dB p c 0=true:=by have e0:j7 p 0 a0=0:=(t0 rfl);rw[e0];unfold mS;show(dB p a0.oc.l 0&&a0.ic.l.all fun c=>dB p c.l 0)=true↔_;rw[o0];show(true&&_)=true↔_;rw[rF];exact IX i0
  have agn:∀ k a c,l[k]?=some a->(Cq p)[k]?=some c->a.oc.l=c->(okO p a=true↔dB p c (WB p c)=true/\∀ d∈bn p,jv p d<=0->jo p (Cq p) (gH p d)=k+1->dB p d (WB p c)=true):=fun k a c h1 h2 h3=>by unfold okO mS;rw[kE];show dB p a.oc.l (nO p a)=true/\_↔_;rw[IX (a:={ a with tw:=nO p a }) (hel k a h1).2];grind
  have aai:dN p 0 (a0::l) []=if mS p { a0 with tw:=j7 p 0 a0 }=true then dN p 1 l []else none:=by rfl
  rw[aai]
  constructor
  .intro hf
   by_cases c0:mS p { a0 with tw:=j7 p 0 a0 }=true
   .rw[bU c0]at hf
    cases hg:dN p 1 l []with
    |none=>rw[hg]at hf;cases hf
    |some r =>
     rw[hg]at hf
     obtain⟨e,h2,h3⟩:=(YX (p:=p) Z).1 hg
     rw[fP]at e
     subst e
     have agr:(l.map (nO p)).length=p.fs.l.length:=by have hf:(((l.map (nO p)).length:Int)==(p.fs.l.length:Int))=true:=hf;grind
     rw[qE]at agr
     rw[hmap]at h3
     refine⟨fun c hc=>?_,h3,Z,fun c hc ht=>?_⟩
     .let⟨k,hk⟩:=rj hc
      grind
     .have hle:=Tc p (Cq p) (gH p c)
      unfold Af
      grind
   .rw[b9 c0]at hf
    cases hf
  .intro hs
   have c0:=ago.2 fun c hc ht hr=>by have:=hs.inner c hc ht;unfold Af at this;grind
   rw[bU c0,(YX (p:=p) (l:=l) (i:=1) (fs:=[]) (r:=l.map (nO p)) Z).2 ⟨rfl,fun a ha=>?_,by rw[hmap];exact hs.aha⟩]
   .show(((l.map (nO p)).length:Int)==(p.fs.l.length:Int))=true
    rw[qE,hlen,hs.num]
    simp
   .let⟨k,hk⟩:=rj ha
    let⟨a',c,e1,e2,e3⟩:=gU k (ew.1 hk).1
    rw[hk]at e1
    cases e1
    let⟨d1,d2⟩:=hs.outer c (og e2)
    refine⟨by grind,(agn k a c hk e2 e3).2 ⟨d2,fun d hd ht hr=>?_⟩,M⟩
    have:=hs.inner d hd ht
    unfold Af at this
    grind
theorem Lb{p:Pn}(h:jq p=0):(∀ a∈p.az.l,a.via.l.length<=900)/\p.fs.l.Pairwise (·<·):=by
 unfold jq at h;cases h1:(mK p||nG p);rotate_left
 .grind
 rw[h1,bT]at h;cases h2:qu p
 .grind
 rw[Ez]at h1;unfold qu at h2;simp[kE]at h2;refine⟨fun a ha=>?_,ZB.1 h2.2.2⟩;have:=ES.1 h1.2 a ha;grind
def ch5{P:Nat->(bq)->List aP->List aP->Nat->H->Prop}(h:∀ d o v w i,∃ a,P d o v w i a):∃ f:Nat->(bq)->List aP->List aP->Nat->H,∀ d o v w i,P d o v w i (f d o v w i):=⟨fun d o v w i=>(h d o v w i).choose,fun d o v w i=>(h d o v w i).choose_spec⟩
theorem Ik(hS:bk S)(De:∀ args,S 185 args=none)(p:Pn)(h1:p.ns.l.length<=1000000)(h2:p.az.l.length<=1000000)(gV:bL p):∃ Np,aM S Np 185 [.agg p.c] (.int .i64 (jq p)) :=
 GN hS De p h1 h2 (fun a h=>by have:=gV a h;omega)
theorem Gt(hS:bk S)(p:Pn){e:Int}(he:e≠0){Np:Nat}(hp:aM S Np 185 [.agg p.c] (.int .i64 e)):∃ N,aM S N 153 [.agg p.c] (.tuple [.nilsl,.int .i64 e]):=by refine⟨Np+10+1,zr (i:=i153) (hS _ _ M M M M) rfl rfl (bP rfl) (Np+10) fun m hm d ah t af=>?_⟩;simp[slotsOf,za,zb,i153,Pn.c]at af;have c0:=fun dd oo aJ aa id=>hp m Z dd oo aJ aa id;simp[Pn.c]at c0;simp only[i153,V0,seval,af,c0,(show(e != 0)=true by grind)];exact xe6
theorem jS(hS:bk S)(p:Pn){e:Int}(he:e≠0){N1:Nat}(EN:aM S N1 153 [.agg p.c] (.tuple [.nilsl,.int .i64 e])):∃ N,aM S N 110 [.agg p.c] (.tuple [.nilsl,.nilsl,.dY,.int .i64 e]):=by refine⟨N1+10+1,zr (i:=i110) (hS _ _ M M M M) rfl rfl (bP rfl) (N1+10) fun m hm d ah t af=>?_⟩;simp[slotsOf,za,zb,i110,Pn.c]at af;have c0:=fun dd oo aJ aa id=>EN m Z dd oo aJ aa id;simp[Pn.c]at c0;simp[i110,V0,seval,af,c0,(show(e != 0)=true by grind)];refine⟨_,by simp only[bh,mq,qi,zV,V0,seval,af,nY,nZ];rfl,?_⟩;exact Zo (n:=2) rfl m Z _ _
theorem BZ(hS:bk S)(De:∀ args,S 185 args=none)(p:Pn)(hn:p.ns.l.length<=200)(hal:p.az.l.length<=200)(gV:bL p)(hE:jq p=0) :
  ∃(e:Int)(N:Nat),(∀ m,N<=m->∀ d ah aJ aa id,∃ a b c,aL aO S m d ah aJ aa id 110 [.agg p.c]=some (.r,.tuple [a,b,c,.int .i64 e],aa))/\((e=0/\sW p (Cq p))∨(e=12/\¬ sW p (Cq p))):=by
 have h0:=Wz hE
 obtain⟨hv,_⟩:=Lb hE
 have hmul:2*p.az.l.length*p.ns.l.length<=400*200:=zlz Z hn
 have hpc:=Ik hS De p Z Z gV
 rw[hE]at hpc
 let⟨cs,hcs,N1,EN⟩:=tS hS De p h0 hal Z gV Z Z hpc
 let⟨L,hL,N2,T0⟩:=xe hS p h0 gV
 let⟨N3,hN3⟩:=DJ hS p h0 hv gV hal Z cs hcs L hL
 have o8:∀ c∈cs.l,c.l∈bn p:=fun c hc=>by grind
 have jM:cs.l.length<=65536:=by
  have h1:cs.l.length=(bn p).length:=by grind
  have:=zgi p;omega
 obtain⟨N4,hN4⟩:=Ga hS p gV cs.l jM (fun c hc=>by have:=(h0.pF hal c.l (o8 c hc)).1;omega) (fun c hc=>(h0.pF hal c.l (o8 c hc)).2.1) (fun c hc z hz=>h0.Kq (h0.Az (o8 c hc) z hz))
 let⟨B,hB⟩:∃ B:Bool,B=true↔sW p (Cq p):=by
  by_cases h:sW p (Cq p)
  .simp[*]
  simp[*]
 have he:((0:Int) != 0)=false:=rfl
 have smp:(IV.cR (eD L) (eL mw L)).scalar=true:=rfl
 have cmp:(IV.cR (eD L) (eL mw L)).cells=[.cR (eD L) (eL mw L)]:=rfl
 refine ⟨bif B then 0 else 12,N1+N2+N3+N4+10+1,fun m hm d ah aJ aa id=>?_,by
  grind⟩
 obtain⟨m,rfl⟩:=gv m 1
 let⟨AS,hAS⟩:=ch5 (hN3 m Z)
 obtain⟨XS,hXS⟩:=ch5 fun d o v w i=>ch5 (P:=fun d' o' v' w' i' (xs:aR 1 aK)=>aL aO S m d' o' v' w' i' 156 [.agg p.c,(AS d o v w i).v]=some (.r,.tuple [xs.v,.bool B],w')) fun d' o' v' w' i'=>by obtain⟨_,hA,hR⟩:=hAS d o v w i;let⟨xs,ok,hf,hok⟩:=hN4 _ hA (fun a ha=>(hR.el 0 a ha).1 rfl) m Z d' o' v' w' i';have hsp:=PR hR;grind
 have main:∃ v,aL aO S (m+1) d ah aJ aa id 110 [.agg p.c]=some (.r,v,aa)/\∃ a b c,v=.tuple [a,b,c,.int .i64 (bif B then 0 else 12)]:=by
  refine ZK (i:=i110) (hS _ _ M M M M) rfl rfl (bP rfl) fun t af=>?_;simp[slotsOf,za,zb,i110,Pn.c]at af;generalize(fun l=>if l=d then aJ else ah l:bq)=bH
  have c0:=fun dd oo aJ aa id=>EN m Z dd oo aJ aa id;have c1:=fun dd oo aJ aa id=>T0 m Z dd oo aJ aa id;have c2:=fun dd oo aJ aa id=>(hAS dd oo aJ aa id).1;have c3:=hXS;simp[Pn.c]at c0 c1 c2 c3;cases B
  .simp only[i110,V0,seval,af,c0,he,c1,c2,c3];rw[y3];refine⟨_,.tuple [.nilsl,.nilsl,.dY,.int .i64 12],by simp only[bh,mq,qi,zV,V0,seval,af,nY,nZ];rfl,?_,_,_,_,rfl⟩;exact Zo (n:=2) rfl m Z _ _
  .simp only[i110,V0,seval,af,c0,he,c1,c2,c3];rw[y3];refine⟨_,_,by simp only[bh,mq,qi,zV,V0,seval,af,nY,nZ];rfl,Zo (n:=5) ?_ m Z _ _,_,_,_,rfl⟩;rw[nk];simp only[oO,MW,JY,Q0 _ 0,Y9 _ 2,Ol L 1,rF];rfl
 grind
structure afp(p:Pn)(z:Int):Prop where
 bad:jq p≠0->z=jq p
 good:jq p=0->(z=0/\sW p (Cq p))∨(z=12/\¬ sW p (Cq p))
theorem tG(hS:bk S)(De:∀ args,S 185 args=none)(Ws:∀ args,S 46 args=none)(p:Pn)(hn:p.ns.l.length<=200)(hal:p.az.l.length<=200)(gV:bL p) :
  ∃(e:Int),afp p e/\∃(N:Nat),aM S N 46 [.agg p.c] (.int .i64 e):=by
 have key:∃(e:Int)(N:Nat),(∀ m,N<=m->∀ d ah aJ aa id,∃ a b c,aL aO S m d ah aJ aa id 110 [.agg p.c]=some (.r,.tuple [a,b,c,.int .i64 e],aa))/\afp p e:=by
  by_cases hE:jq p=0
  .let⟨e,N,hN,h⟩:=BZ hS De p hn hal gV hE;exact⟨e,N,hN,fun h=>absurd hE h,fun _=>h⟩
  .let⟨Np,hp⟩:=Ik hS De p Z Z gV;let⟨N1,EN⟩:=Gt hS p hE hp;let⟨N,hN⟩:=jS hS p hE EN;exact⟨_,N,fun m hm d o v w i=>⟨_,_,_,hN m hm d o v w i⟩,fun _=>rfl,fun h=>absurd h hE⟩
 let⟨e,N,hN,hX⟩:=key
 refine⟨e,hX,N+10+1,zg (i:=i46) (Ws _) rfl rfl (bP rfl) (N+10) Z zp fun m hm d ah t af=>?_⟩
 simp[slotsOf,za,zb,i46,Pn.c]at af
 obtain⟨f,c0⟩:=ch5 (P:=fun d o v w i (x:IV×IV×IV)=>aL aO S m d o v w i 110 [.agg p.c]=some (.r,.tuple [x.1,x.2.1,x.2.2,.int .i64 e],w)) fun d o v w i=>by let⟨a,b,c,h⟩:=hN m Z d o v w i;simp[*]
 simp[Pn.c]at c0
 simp[i46,V0,seval,af,c0]
def Sw{g:H->List IV}{sz:Nat}{P:H->Prop}(q:aR sz (fun x:{ a:H // P a }=>g x.1)):aR sz g:=⟨q.l.map Subtype.val,q.v,by
 rw[List.flatMap_map,qE];exact q.ok,by rw [qE]; exact q.eZ⟩
def Bv.sv(s:Bv):Sv:=⟨⟨s.ns,Sw (g:=Ac.c) s.az,s.fs⟩,Sw (g:=Ft.c) s.ft⟩
def Bc(s:Sv)(h:Sm s):Bv:=⟨s.pl.ns,SF _ s.pl.az fun a ha=>by have:=h.via a ha;omega,s.pl.fs,SF _ s.ft fun f hf=>by have:=h.parts f hf;omega⟩
theorem we{s:Sv}(h:Sm s):(Bc s h).Few:=by
 refine⟨?_,?_,?_⟩
 .have:=h.ns;show s.pl.ns.l.length<=1000;omega
 .have:=h.ar;show(s.pl.az.l.attachWith _ _).length<=1000;grind
 .have:=h.ft;show(s.ft.l.attachWith _ _).length<=1000;grind
theorem XA(s:Bv):bL s.sv.pl:=fun a ha=>by obtain⟨x,_,rfl⟩:=kO.1 ha;grind
theorem ady(R:Bv):∀ x∈[R.ns.v,R.az.v,R.fs.v,R.ft.v],Fz 9 x:=fun x hx=>by
 simp[eG,gm,gw]at hx;rcases hx with rfl|rfl|rfl|rfl
 .exact Zo (acf R.ns 7)
 .exact Zo (ad5 (Sw R.az) 6)
 .exact Zo (zfn R.fs 7)
 .exact Zo (zd0 (fun a=>by
   simp[Ft.c,zf,oO,MW,nk,rF,JY];exact zfn a.parts 6) (Sw R.ft))
def Ud(x y z:Int):Int:=if x≠0 then x else if y≠0 then y else z
variable {N:Nat}{nm:ByteArray->Int}
section
theorem Yx(hS:bk S)(De:∀ args,S 185 args=none)(Ws:∀ args,S 46 args=none)(hN:Mx S nm)(s:Sv)(hn:s.pl.ns.l.length<=200)(ha:s.pl.az.l.length<=200)(hv:bL s.pl):∃(e:Int)(N:Nat),aM S N 23 [.agg s.c] (.int .i64 e):=by obtain⟨e,_,N,h⟩:=tG hS De Ws s.pl hn ha hv;let⟨N2,h2⟩:=Ae hS hN s hv h;grind
theorem w8(hS:bk S)(h7:∀ x:{ s:ByteArray // s.size<=maxLen },∃ N,aM S N 144 [.str x.1] (.int .i64 (nm x.1)))(s:Sv)(h:Sm s):∃(e:Int)(N:Nat),aM S N 15 [.agg s.c] (.int .i64 e):=by
 have h1:=h.ns;have h2:=h.ar;have h3:=h.ft;have hv:bL s.pl:=fun a ha=>by have:=h.via a ha;omega
 obtain⟨z,_,hM⟩:=D8 hS s.pl hv Z Z;obtain⟨N,h4⟩:=GY hS nm s hv Z (fun f hf=>by have:=h.parts f hf;omega) (fun f _=>h7 f.name) z hM;grind
theorem LZ(hS:bk S){b o t:Sv}{eb eo et:Int}(hb:aM S N 23 [.agg b.c] (.int .i64 eb))(ho:aM S N 23 [.agg o.c] (.int .i64 eo))(ht:aM S N 23 [.agg t.c] (.int .i64 et)):aM S (N+10) 21 [.agg b.c,.agg o.c,.agg t.c] (.int .i64 (Ud eb eo et)):=by
 refine zg (i:=i21) (hS _ _ M M M M) rfl rfl (bP rfl) (N+9) Z zp fun m hm d ah tt af=>?_;simp only[slotsOf,za,zb,i21,Sv.c]at af;obtain⟨m,rfl⟩:=gv m 4;have c0:=fun d ah aJ aa id=>hb (m+1+1+1+1) Z d ah aJ aa id;have c1:=fun d ah aJ aa id=>ho (m+1+1+1+1) Z d ah aJ aa id;have c2:=fun d ah aJ aa id=>ht (m+1+1+1+1) Z d ah aJ aa id;simp[Sv.c]at c0 c1 c2;have fl:∀ a b c d e f g h i j k l:IV,(if 4<=(rep [IV.nilsl,.nilsl,.nilsl,.nilsl] 3).length then if 8<=(dS (rep [IV.nilsl,.nilsl,.nilsl,.nilsl] 3) 0 [a,b,c,d]).length then if 12<=(dS (dS (rep [IV.nilsl,.nilsl,.nilsl,.nilsl] 3) 0 [a,b,c,d]) 4 [e,f,g,h]).length then some (dS (dS (dS (rep [IV.nilsl,.nilsl,.nilsl,.nilsl] 3) 0 [a,b,c,d]) 4 [e,f,g,h]) 8 [i,j,k,l])else none else none else none)=some [a,b,c,d,e,f,g,h,i,j,k,l]:=fun a b c d e f g h i j k l=>rfl
 have l0:decide ((0:Int)<3)=true:=rfl;have l1:decide ((1:Int)<3)=true:=rfl;have l2:decide ((2:Int)<3)=true:=rfl;have l3:decide ((3:Int)<3)=false:=rfl;have w1:aT .i64 1=1:=zA rfl Z Z;have w2:aT .i64 2=2:=zA rfl Z Z;have w3:aT .i64 3=3:=zA rfl Z Z;have nt:∀ z:Int,z≠0->(z != 0)=true:=fun z h=>by grind
 have nf:((0:Int) != 0)=false:=rfl;unfold Ud;by_cases h1:eb=0
 .subst h1;by_cases h2:eo=0
  .subst h2;by_cases h3:et=0
   .subst h3;simp[i21,V0,seval,af,fl,yJ,yK,Yp (show 0<3 by omega),zcd (show 1<3 by omega),zce (show 2<3 by omega),w1,w2,w3,l0,l1,l2,l3,c0,c1,c2,nf]
   .simp[i21,V0,seval,af,fl,yJ,yK,Yp (show 0<3 by omega),zcd (show 1<3 by omega),zce (show 2<3 by omega),w1,w2,w3,l0,l1,l2,l3,c0,c1,c2,nf,nt et h3]
  .rw[b9 (fun h=>h rfl),bU h2];simp[i21,V0,seval,af,fl,yJ,yK,Yp (show 0<3 by omega),zcd (show 1<3 by omega),zce (show 2<3 by omega),w1,w2,w3,l0,l1,l2,l3,c0,c1,c2,nf,nt eo h2]
 .rw[bU h1];simp[i21,V0,seval,af,fl,yJ,yK,Yp (show 0<3 by omega),zcd (show 1<3 by omega),zce (show 2<3 by omega),w1,w2,w3,l0,l1,l2,l3,c0,c1,c2,nt eb h1]
def Tr:IV:=.agg [.nilsl,.nilsl,.nilsl,.nilsl]
def SB(E:Int)(R:Bv)(q:aR 2 lV)(ec:Int):IV :=
 if E≠0 then .tuple [Tr,.nilsl,.int .i64 E]else if q.l≠[]then .tuple [Tr,q.v,.int .i64 16]else if ec≠0 then .tuple [Tr,.nilsl,.int .i64 16]else .tuple [.agg R.c,.nilsl,.int .i64 0]
theorem Ki(hS:bk S){b o t R:Bv}{q:aR 2 lV}{E ec:Int}(h1:aM S N 21 [.agg b.c,.agg o.c,.agg t.c] (.int .i64 E))(h2:aM S N 22 [.agg b.c,.agg o.c,.agg t.c] (.tuple [.agg R.c,q.v]))(h3:aM S N 23 [.agg R.c] (.int .i64 ec)):aM S (N+20) 9 [.agg b.c,.agg o.c,.agg t.c] (SB E R q ec):=by
 refine zr (i:=i9) (hS _ _ M M M M) rfl rfl (bP rfl) (N+19) fun m hm d ah tt af=>?_;simp only[slotsOf,za,zb,i9,Bv.c]at af;have c0:=h1 m Z;have c1:=h2 m Z;have c2:=h3 m Z;simp[Bv.c]at c0 c1 c2;have nt:∀ z:Int,z≠0->(z != 0)=true:=fun z h=>by grind
 have nf:((0:Int) != 0)=false:=rfl;unfold SB Tr Bv.c;have fin:∀(cs:List IV)(l:IV)(e:Int)(aa:aS),(∀ x∈cs,Fz 9 x)->Fz 3 l->freeze m d aa (.tuple [.agg cs,l,.int .i64 e])=some (.tuple [.agg cs,l,.int .i64 e]):=fun cs l e aa hc hl=>by
  obtain⟨m,rfl⟩:=gv m 2;have h2:freeze (m+1) d aa (.int .i64 e)=some (.int .i64 e):=rfl;have h3:freeze (m+1) d aa (.agg cs)=some (.agg cs):=xcr
  have h4:=hl (m+1) Z d aa;unfold freeze;simp[*]
 have hz:∀ x∈[IV.nilsl,.nilsl,.nilsl,.nilsl],Fz 9 x:=fun x hx=>by simp[eG,gm,gw,or_self]at hx;rw[hx];exact fun m hm lv aa=>yZ m Z lv aa
 have fzn:∀{n:Nat},1<=n->Fz n .nilsl:=fun h m hm lv aa=>yZ m Z lv aa;by_cases g1:E=0;rotate_left
 .rw[bU g1];simp[i9,V0,seval,af,c0,nt E g1,yj];refine⟨_,?_,fin _ _ E _ hz (fzn Z)⟩;exact xdn
 subst g1;rw[b9 (fun h=>h rfl)];by_cases g2:q.l=[];rotate_left
 .rw[bU g2];have hl:decide (((q.l.length:Nat):Int)>0)=true:=by have:=MH.2 g2;grind
  simp only[i9,V0,seval,af,c0,nf,c1,hl,yj];refine⟨_,?_,fin _ _ 16 _ hz (zP zck q)⟩;exact xdn
 rw[b9 (fun h=>h g2)];have hl:decide (((q.l.length:Nat):Int)>0)=false:=by grind
 by_cases g3:ec=0;rotate_left
 .rw[bU g3];simp only[i9,V0,seval,af,c0,nf,c1,hl,c2,nt ec g3,yj];refine⟨_,?_,fin _ _ 16 _ hz (fzn Z)⟩;exact xdn
 subst g3;simp only[i9,V0,seval,af,c0,nf,c1,hl,c2,yj];refine⟨_,?_,fin _ _ 0 _ (fun x hx=>?_) (fzn Z)⟩
 .exact xdn
 .exact ady R x hx
end
def Zi{aJ aa:aS}{s:ByteArray}:iY d ah aJ aa 0 (.str s)=some (.p,.int .i64 s.size,aa):=aI
theorem Bz(hS:bk S)(p:Pn):∃ b,aM S (p.az.l.length+10) 39 [.agg p.c] (.bool b)/\(b=true->p.ns.l.length<=40/\p.az.l.length<=40/\∀ a∈p.az.l,a.via.l.length<=300):=by
 have go:∀(b:Bool),(∀ m,p.az.l.length+9<=m->∀ d ah t,aN 47 t [(0,.agg p.c)]->Ex (aL aO S m) d ah m i39.body (Fin d ah i39.res (.bool b)) ⟨t,[]⟩)->aM S (p.az.l.length+10) 39 [.agg p.c] (.bool b):=fun b h=>zg (i:=i39) (hS _ _ M M M M) rfl rfl (bP rfl) (p.az.l.length+9) Z zk fun m hm d ah t af=>h m hm d ah t af;by_cases h1:40<p.ns.l.length
 .refine⟨false,go _ fun m hm d ah t af=>?_,fun h=>by grind⟩;simp[za,zb,Pn.c]at af;simp only[i39,V0,Xa,Xb,Xc,Xd,Xe,reduceCtorEq,af,(show decide (((p.ns.l.length:Nat):Int)>40)=true by grind)]
 by_cases h2:40<p.az.l.length
 .refine⟨false,go _ fun m hm d ah t af=>?_,fun h=>by grind⟩;simp[za,zb,Pn.c]at af;simp only[i39,V0,Xa,Xb,Xc,Xd,Xe,reduceCtorEq,af,(show decide (((p.ns.l.length:Nat):Int)>40)=false by grind),(show decide (((p.az.l.length:Nat):Int)>40)=true by grind)]
 by_cases h3:80<p.fs.l.length
 .refine⟨false,go _ fun m hm d ah t af=>?_,fun h=>by grind⟩;simp[za,zb,Pn.c]at af;simp only[i39,V0,Xa,Xb,Xc,Xd,Xe,reduceCtorEq,af,(show decide (((p.ns.l.length:Nat):Int)>40)=false by grind),(show decide (((p.az.l.length:Nat):Int)>40)=false by grind),(show decide (((p.fs.l.length:Nat):Int)>80)=true by grind)]
 have d1:decide (((p.ns.l.length:Nat):Int)>40)=false:=by grind
 have d2:decide (((p.az.l.length:Nat):Int)>40)=false:=by grind
 have d3:decide (((p.fs.l.length:Nat):Int)>80)=false:=by grind
 by_cases h4:∀ a∈p.az.l,a.via.l.length<=300
 .have sum:∀ l:List Ac,(∀ a∈l,a.via.l.length<=300)->(l.map fun a=>a.via.l.length).sum<=l.length*300:=fun l=>by
   induction l with
   |nil=>simp
   |cons a l ih =>
    grind
  refine⟨decide ((((p.az.l.map fun a=>a.via.l.length).sum:Nat):Int)<=300),go _ fun m hm d ah t af=>?_,fun _=>⟨Z,Z,h4⟩⟩;simp[za,zb,Pn.c]at af;simp only[i39,V0,Xa,Xb,Xc,Xd,Xe,reduceCtorEq,af,d1,d2,d3];refine zn (fun jj st=>∃(i:Nat),p.az.l.length-i<=jj/\i<=p.az.l.length/\st.aa=[p.o]/\aN 47 st.t [(1,.ptrM d 0 0),(3,.int .i64 ((((p.az.l.take i).map fun a=>a.via.l.length).sum:Nat):Int)),(4,iv i)]) p.az.l.length Z ⟨0,Z,Z,rfl,by simp only[V0,Xa,Xb,Xc,Xd,Xe,reduceCtorEq,af,d1,d2,d3,cZ];rfl⟩ ?_;clear af;rintro jj ⟨t,aa⟩ KA ⟨i,hjj,hi,rfl,af⟩ bp bK bQ;simp only[V3]at af;by_cases h:i<p.az.l.length
  .have hx:p.az.l[i]?=some p.az.l[i]:=dw h;have MP:=h4 _ (gQ h);generalize p.az.l[i]=x at hx MP;have hrd:bB (p.az.l.flatMap Ac.c) (i*6+3) 1=some [x.via.v]:=(zd Ac.aV 3 1 hx Z).trans rfl;have hw:=zt i;have d4:decide (((x.via.l.length:Nat):Int)>300)=false:=by grind
   have hs1:=sum (p.az.l.take i) fun a ha=>h4 a (zlb ha);rw[ER]at hs1;have hs2:(((p.az.l.take (i+1)).map fun a=>a.via.l.length).sum)=((p.az.l.take i).map fun a=>a.via.l.length).sum+x.via.l.length:=by rw[uk hx,Hi,List.sum_append];simp
   have RX:aT .i64 (((((p.az.l.take i).map fun a=>a.via.l.length).sum:Nat):Int)+((x.via.l.length:Nat):Int))=((((p.az.l.take (i+1)).map fun a=>a.via.l.length).sum:Nat):Int):=oS;simp only[V0,Xa,Xb,Xc,Xd,Xe,reduceCtorEq,af,h,zc p.az h,hrd,d4,hw,RX];exact bp _ (p.az.l.length-(i+1)) Z ⟨i+1,Z,Z,rfl,by simp[V0,Xa,Xb,Xc,Xd,Xe,reduceCtorEq,af,h,zc p.az h,hrd,d4,hw,RX]⟩
  .simp[V0,Xa,Xb,Xc,Xd,Xe,reduceCtorEq,af,h];refine bK _ _ ?_;simp[V0,Xa,Xb,Xc,Xd,Xe,reduceCtorEq,af,(fT Z:p.az.l.take i=p.az.l)]
 .refine⟨false,go _ fun m hm d ah t af=>?_,fun h=>by grind⟩;have hex:∃(k:Nat)(x:Ac),p.az.l[k]?=some x/\300<x.via.l.length/\∀ j y,j<k->p.az.l[j]?=some y->y.via.l.length<=300:=by
   let⟨a,ha⟩:=zm0.1 h4;let⟨ha,Lf⟩:=Classical.not_imp.1 ha;have hf:(p.az.l.findIdx? fun a=>decide (300<a.via.l.length))≠none:=fun h=>by grind
   let⟨k,hk⟩:=zng.1 hf;let⟨au,h1,h2⟩:=EW.1 hk;refine⟨k,p.az.l[k],dw au,by grind,fun j y hj hy=>?_⟩;grind
  let⟨k,xk,V8,hvk,F3⟩:=hex;have lz:=(ew.1 V8).1;simp[za,zb,Pn.c]at af;simp only[i39,V0,Xa,Xb,Xc,Xd,Xe,reduceCtorEq,af,d1,d2,d3];refine zn (fun jj st=>∃(i n:Nat),k-i<=jj/\i<=k/\n<=i*300/\st.aa=[p.o]/\aN 47 st.t [(1,.ptrM d 0 0),(3,iv n),(4,iv i)]) k Z ⟨0,0,Z,Z,Z,rfl,by simp[V0,Xa,Xb,Xc,Xd,Xe,reduceCtorEq,af,d1,d2,d3,cZ]⟩ ?_;clear af;rintro jj ⟨t,aa⟩ KA ⟨i,n,hjj,hi,hnb,rfl,af⟩ bp bK bQ;simp[za,zb,zf]at af;have h:i<p.az.l.length:=Z;obtain⟨x,hx⟩:=fc (l:=p.az.l) (i:=i) h;have hrd:bB (p.az.l.flatMap Ac.c) (i*6+3) 1=some [x.via.v]:=(zd Ac.aV 3 1 hx Z).trans rfl;by_cases hik:i=k
  .subst hik;rw[←s6 (hx.symm.trans V8)]at hvk;have d4:decide (((x.via.l.length:Nat):Int)>300)=true:=by grind
   simp[V0,Xa,Xb,Xc,Xd,Xe,reduceCtorEq,af,h,zc p.az h,hrd,d4];refine bQ _ ?_;simp[V0,Xa,Xb,Xc,Xd,Xe,reduceCtorEq,af,h,zc p.az h,hrd,d4]
  .have MP:=F3 i x Z hx;have d4:decide (((x.via.l.length:Nat):Int)>300)=false:=by grind
   have hw:=zt i;have RX:aT .i64 ((n:Int)+((x.via.l.length:Nat):Int))=((n+x.via.l.length:Nat):Int):=oS;simp only[V0,Xa,Xb,Xc,Xd,Xe,reduceCtorEq,af,h,zc p.az h,hrd,d4,hw,RX];exact bp _ (k-(i+1)) Z ⟨i+1,n+x.via.l.length,Z,Z,Z,rfl,by simp[V0,Xa,Xb,Xc,Xd,Xe,reduceCtorEq,af,h,zc p.az h,hrd,d4,hw,RX]⟩
theorem zc1(hS:bk S)(s:Sv):∃ b,aM S (s.pl.az.l.length+s.ft.l.length+20) 19 [.agg s.c] (.bool b)/\(b=true->Sm s):=by
 let⟨b0,hb0,hs0⟩:=Bz hS s.pl;have go:∀(b:Bool),(∀ m,s.pl.az.l.length+s.ft.l.length+19<=m->∀ d ah t,aN 39 t [(0,.agg s.c)]->Ex (aL aO S m) d ah m i19.body (Fin d ah i19.res (.bool b)) ⟨t,[]⟩)->aM S (s.pl.az.l.length+s.ft.l.length+20) 19 [.agg s.c] (.bool b):=fun b h=>zg (i:=i19) (hS _ _ M M M M) rfl rfl (bP rfl) (s.pl.az.l.length+s.ft.l.length+19) Z zk fun m hm d ah t af=>h m hm d ah t af;cases b0
 .refine⟨false,go _ fun m hm d ah t af=>?_,fun h=>by grind⟩;have c0:=hb0 m Z;simp[Pn.c]at c0;simp[za,zb,Sv.c]at af;simp only[i19,V0,Xa,Xb,Xc,Xd,Xe,reduceCtorEq,af,c0]
 let⟨g1,g2,g3⟩:=hs0 rfl;by_cases h1:20<s.ft.l.length
 .refine⟨false,go _ fun m hm d ah t af=>?_,fun h=>by grind⟩;have c0:=hb0 m Z;simp[Pn.c]at c0;simp[za,zb,Sv.c]at af;simp only[i19,V0,Xa,Xb,Xc,Xd,Xe,reduceCtorEq,af,c0,(show decide (((s.ft.l.length:Nat):Int)>20)=true by grind)]
 have d1:decide (((s.ft.l.length:Nat):Int)>20)=false:=by grind
 by_cases h4:∀ f∈s.ft.l,f.parts.l.length<=70/\f.name.1.size<=200
 .refine⟨true,go _ fun m hm d ah t af=>?_,fun _=>⟨g1,g2,g3,Z,fun f hf=>(h4 f hf).1⟩⟩;have c0:=hb0 m Z;simp[Pn.c]at c0;simp[za,zb,Sv.c]at af;simp only[i19,V0,Xa,Xb,Xc,Xd,Xe,reduceCtorEq,af,c0,d1];refine zn (fun jj st=>∃(i:Nat),s.ft.l.length-i<=jj/\i<=s.ft.l.length/\st.aa=[s.o,.free]/\aN 39 st.t [(1,.ptrM d 0 0),(3,iv i)]) s.ft.l.length Z ⟨0,Z,Z,rfl,by simp[V0,Xa,Xb,Xc,Xd,Xe,reduceCtorEq,af,c0,d1,cZ]⟩ ?_;rintro jj ⟨t,aa⟩ KA ⟨i,hjj,hi,rfl,af⟩ bp bK bQ;simp[za,zb,zf]at af;by_cases h:i<s.ft.l.length
  .have hx:s.ft.l[i]?=some s.ft.l[i]:=dw h;have MP:=h4 _ (gQ h);generalize s.ft.l[i]=x at hx MP;have jE:bB (s.ft.l.flatMap Ft.c) (i*5+4) 1=some [x.parts.v]:=(zd Ft.aV 4 1 hx Z).trans rfl;have hr2:bB (s.ft.l.flatMap Ft.c) (i*5+3) 1=some [.str x.name.1]:=(zd Ft.aV 3 1 hx Z).trans rfl;have hw:=zt i;have d4:decide (((x.parts.l.length:Nat):Int)>70)=false:=by grind
   have d5:decide (((x.name.1.size:Nat):Int)>200)=false:=by grind
   simp only[V0,Xa,Xb,Xc,Xd,Xe,reduceCtorEq,af,h,zc s.ft h,jE,hr2,Zi,d4,d5,hw];exact bp _ (s.ft.l.length-(i+1)) Z ⟨i+1,Z,Z,rfl,by simp[V0,Xa,Xb,Xc,Xd,Xe,reduceCtorEq,af,h,zc s.ft h,jE,hr2,Zi,d4,d5,hw]⟩
  .simp[V0,Xa,Xb,Xc,Xd,Xe,reduceCtorEq,af,h];refine bK _ _ ?_;simp[V0,Xa,Xb,Xc,Xd,Xe,reduceCtorEq,af]
 .refine⟨false,go _ fun m hm d ah t af=>?_,fun h=>by grind⟩;have c0:=hb0 m Z;have hex:∃(k:Nat)(x:Ft),s.ft.l[k]?=some x/\¬ (x.parts.l.length<=70/\x.name.1.size<=200)/\∀ j y,j<k->s.ft.l[j]?=some y->y.parts.l.length<=70/\y.name.1.size<=200:=by
   let⟨a,ha⟩:=zm0.1 h4;let⟨ha,Lf⟩:=Classical.not_imp.1 ha;have hf:(s.ft.l.findIdx? fun a=>decide (¬ (a.parts.l.length<=70/\a.name.1.size<=200)))≠none:=fun h=>by grind
   let⟨k,hk⟩:=zng.1 hf;let⟨au,h1,h2⟩:=EW.1 hk;refine⟨k,s.ft.l[k],dw au,of_decide_eq_true h1,fun j y hj hy=>?_⟩;grind
  let⟨k,xk,V8,hvk,F3⟩:=hex;have lz:=(ew.1 V8).1;simp[Pn.c]at c0;simp[za,zb,Sv.c]at af;simp only[i19,V0,Xa,Xb,Xc,Xd,Xe,reduceCtorEq,af,c0,d1];refine zm k (fun i st=>st.aa=[s.o,.free]/\aN 39 st.t [(1,.ptrM d 0 0),(3,iv i)]) Z ⟨rfl,by simp[V0,Xa,Xb,Xc,Xd,Xe,reduceCtorEq,af,c0,d1,cZ]⟩ ?_;clear af;rintro i ⟨t,aa⟩ KA hi ⟨rfl,af⟩ bp bK bQ;simp[za,zb,zf]at af;have h:i<s.ft.l.length:=Z;obtain⟨x,hx⟩:=fc (l:=s.ft.l) (i:=i) h;have jE:bB (s.ft.l.flatMap Ft.c) (i*5+4) 1=some [x.parts.v]:=(zd Ft.aV 4 1 hx Z).trans rfl;have hr2:bB (s.ft.l.flatMap Ft.c) (i*5+3) 1=some [.str x.name.1]:=(zd Ft.aV 3 1 hx Z).trans rfl;by_cases hik:i=k
  .subst hik;rw[←s6 (hx.symm.trans V8)]at hvk;by_cases ahm:x.parts.l.length<=70
   .have d4:decide (((x.parts.l.length:Nat):Int)>70)=false:=by grind
    have d5:decide (((x.name.1.size:Nat):Int)>200)=true:=by grind
    simp only[V0,Xa,Xb,Xc,Xd,Xe,reduceCtorEq,af,h,zc s.ft h,jE,hr2,Zi,d4,d5];refine bQ _ ?_;simp[V0,Xa,Xb,Xc,Xd,Xe,reduceCtorEq,af,h,zc s.ft h,jE,hr2,Zi,d4,d5]
   .have d4:decide (((x.parts.l.length:Nat):Int)>70)=true:=by grind
    simp only[V0,Xa,Xb,Xc,Xd,Xe,reduceCtorEq,af,h,zc s.ft h,jE,hr2,Zi,d4];refine bQ _ ?_;simp[V0,Xa,Xb,Xc,Xd,Xe,reduceCtorEq,af,h,zc s.ft h,jE,hr2,Zi,d4]
  .have MP:=F3 i x Z hx;have hw:=zt i;have d4:decide (((x.parts.l.length:Nat):Int)>70)=false:=by grind
   have d5:decide (((x.name.1.size:Nat):Int)>200)=false:=by grind
   simp only[V0,Xa,Xb,Xc,Xd,Xe,reduceCtorEq,af,h,zc s.ft h,jE,hr2,Zi,d4,d5,hw];exact bp Z _ ⟨rfl,by simp[V0,Xa,Xb,Xc,Xd,Xe,reduceCtorEq,af,h,zc s.ft h,jE,hr2,Zi,d4,d5,hw]⟩
mutual
def jA:IV->IV->Bool
 |.bool a,.bool b=>a==b
 |.int k a,.int k' b=>decide (k=k')&&decide (a=b)
 |.str a,.str b=>a.data.toList==b.data.toList
 |.bw,.bw=>true
 |.nilsl,.nilsl=>true
 |.slC cs len sz tight,.slC cs' len' sz' Xy=>lY cs cs'&&Nat.beq len len'&&Nat.beq sz sz'&&tight==Xy
 |.dY,.dY=>true
 |.agg cs,.agg cs'=>lY cs cs'
 |_,_=>false
def lY:List IV->List IV->Bool
 |[],[]=>true
 |x::xs,y::ys=>jA x y&&lY xs ys
 |_,_=>false
end
mutual
theorem QN:∀(a b:IV),jA a b=true->a=b
 |.bool a,b,h=>by cases b<;>simp[jA]at h;subst h;rfl
 |.int k a,b,h=>by cases b<;>simp[jA]at h;obtain⟨rfl,rfl⟩:=h;rfl
 |.str a,b,h=>by cases b<;>simp[jA]at h;rename_i b;cases a;cases b;simp only[Array.toList_inj]at h;subst h;rfl
 |.bw,b,h=>xe4
 |.ptrM ..,b,h=>xbh
 |.ptrC ..,b,h=>xbh
 |.nilsl,b,h=>xe4
 |.slM ..,b,h=>xbh
 |.slC cs len sz tight,b,h=>by cases b<;>simp only[jA,nv,kE,Ev]at h;obtain⟨⟨⟨h1,h2⟩,h3⟩,h4⟩:=h;rw[zag _ _ h1,MK h2,MK h3,h4]
 |.dY,b,h=>xe4
 |.mapM ..,b,h=>xbh
 |.cR ..,b,h=>xbh
 |.iX,b,h=>xbh
 |.fn ..,b,h=>xbh
 |.agg cs,b,h=>by cases b<;>simp only[jA,nv]at h;rw[zag _ _ h]
 |.tuple ..,b,h=>xbh
theorem zag:∀(a b:List IV),lY a b=true->a=b
 |[],[],_=>rfl
 |[],_::_,h=>by simp[lY]at h
 |_::_,[],h=>by simp[lY]at h
 |x::xs,y::ys,h=>by simp only[lY,kE]at h;rw[QN x y h.1,zag xs ys h.2]
end
mutual
def noM:IV->Bool
 |.bool _=>true
 |.int _ _=>true
 |.str _=>true
 |.bw=>true
 |.nilsl=>true
 |.slC cs _ _ _=>FE cs
 |.dY=>true
 |.agg cs=>FE cs
 |_=>false
def FE:List IV->Bool
 |[]=>true
 |x::xs=>noM x&&FE xs
end
theorem zbx:∀{xs:List IV},FE xs=true->∀{j:Nat}{x:IV},xs[j]?=some x->noM x=true
 |[],_,j,x,h=>by grind
 |y::ys,h,j,x,hj=>by
  simp[FE,kE]at h;cases j with
  |zero=>grind
  |succ j=>exact zbx h.2 hj
variable {I:Pl}{W:World}{v:IV}
theorem Xr{x:Value}(h:VR I W v x)(hv:noM v=true):VR fo W v x:=by
 induction h with
 |bool b=>exact .bool b
 |int k n=>exact .int k n
 |str s=>exact .str s
 |bw=>exact .bw
 |nilsl=>exact .nilsl
 |slC f hk hc _ hn hl ht ha ih=>exact .slC f (fun h0=>(fun hk=>⟨hk.1,fun l i s hb=>by simp[fo]at hb⟩) (hk h0)) hc (fun j x hx=>ih j x hx (zbx hv hx)) hn hl ht ha
 |dY=>exact .dY
 |agg n _ ih=>exact .agg n (fun j x y hx hy=>ih j x y hx hy (zbx hv hx))
 |_=>simp[noM]at hv
def Ss{xs:List IV}{ys:List Value}(h:dx I W xs ys)(hv:FE xs=true):dx fo W xs ys:=⟨h.1,fun j x y hx hy=>Xr (h.2 j x y hx hy) (zbx hv hx)⟩
def rO:IV->Bool
 |.bool _=>true
 |.int _ _=>true
 |.str _=>true
 |_=>false
theorem Su{β':Pl}{W':World}{x:Value}(h:VR I W v x)(hv:rO v=true):VR β' W' v x:=by cases h<;>first|exact .bool _|exact .int _ _|exact .str _|simp[rO]at hv
section
variable {P:Program} {B:Nat} {W0:World} {F:FuncId->Option gP} {S1 S2:bX}
theorem S7:RS fo (look 0 (fun _=>[]) []) W:=by
 exact xaj
def Ig(f0:FuncId)(a0:List IV)(v0:IV)(S:bX):bX:=fun f args=>bif Nat.beq f f0&&lY args a0 then some v0 else S f args
theorem E4(hm:P.follows .mixedOrders=true)(hF:JN P F)(hS:sU P B W0 S){f0:FuncId}{a0:List IV}{v0:IV}{n:Nat}{e:dI}{bJ:aS}(hr:aL F S n 0 (fun _=>[]) [] [] 0 f0 a0=some (e,v0,bJ))(ha:FE a0=true)(hv:rO v0=true):sU P B W0 (Ig f0 a0 v0 S):=by
 intro f args v h;unfold Ig at h;cases hc:(Nat.beq f f0&&lY args a0)with
 |false=>rw[hc]at h;exact hS f args v h
 |true =>
  rw[hc]at h
  simp[bV,iw]at h
  subst h
  rw[kE]at hc
  obtain⟨hc0,hc⟩:=hc
  obtain rfl:=MK hc0
  obtain rfl:=zag _ _ hc
  refine⟨?_,fun I W args' hb Lf=>?_⟩
  .cases n with
   |zero=>simp[aL]at hr
   |succ n =>
    unfold aL at hr
    split at hr
    .rename_i w hw
     exact(hS f args w hw).1
    .split at hr
     .grind
     .rename_i i hi
      rcases hF f i hi with⟨_,fn,hfn,Pm⟩|FZ
      rotate_left
      .exact FZ.1
      unfold cFn at Pm
      grind
  .refine((fun W args' hb Lf=>ze0 hm hF hS n 0 (fun _=>[]) [] [] 0 f args e v0 bJ args' fo W hr hb ⟨rfl,fun i o h=>.inl h⟩ S7 Lf) W args' ⟨fun l i k s hq=>by simp[fo]at hq,hb.size,hb.below⟩ (Ss Lf ha)).2.mono fun x W' hx=>?_
   obtain⟨y,β',h3,h4,_,h6,_⟩:=hx
   exact⟨y,h3,h6.below fun i p hq=>by simp[fo]at hq,Su h4 hv⟩
end
end Go.Proofs.YtjibdelmjcenhaaGreatDoor
namespace Go.Proofs.YtjibdelmjcenhaaGreatDoor
open Go.RowKit
theorem OP:(Tryz.prog.info? 3).map (fun i=>(i.zero,i.size,i.bytes))=some (some (.int .i64 0),1,8):=by kernel_rfl
variable {B:Nat}{v:Value}{xs:List Int}
theorem OI.mono{w:World}{B':Nat}(h:OI w B v xs)(hB:B'<=B):OI w B' v xs:=by
 let⟨h1,h2⟩:=h;refine⟨h1,?_⟩;rcases h2 with h2|⟨g,cap,cur,hv,hg,r⟩
 .grind
 .exact Or.inr ⟨g,cap,cur,hv,Z,r⟩
theorem OI.aa{w:World}(h:OI w B v xs):∀ k,v.ownBlock=some k->B<=k/\k<w.heap.size:=by
 let⟨h1,h2⟩:=h;intro k hk;rcases h2 with⟨rfl,_⟩|⟨g,cap,cur,rfl,hg,hh,r⟩
 .cases hk
 .simp[Value.ownBlock,iw]at hk;grind
variable {k:Nat}
def OI.iterAt{w:World}(h:OI w B v xs)(hk:k<B)(s:ByteArray)(p:Nat):OI (w.iterAt k s p) B v xs:=ownsRow_iterAt h hk s p
theorem Gl.Tab.iterAt{w:World}(h:Gl.Tab w)(hk:0≠k)(s:ByteArray)(p:Nat):Gl.Tab (w.iterAt k s p):=by let⟨t,fr,h⟩:=h;exact⟨t,fr,by rw[Lib.iterAt_other _ _ _ _ _ hk];omega⟩
theorem zgj{ops:Array Oper}{rest:List Oper}{o:Oper}{a:Act}{Q:Exit->Act->World->Prop}(hgd:o.guard=none)(s x:Operand)
  (ho:o.op=.call { callee:=.builtin .append,args:=#[s,x],argTypes:=#[24,24] })
  (W:World) (base:Nat) (v:Value) (xs:List Int) (y:Int) (hs:a.eval s=v) (hown:OI W base v xs) (hx:a.eval x=.slice (some ⟨W.heap.size,0,none⟩) 1 1)
  (hlen:xs.length<=10000000000000) (hbase:base<=W.heap.size)
  (h:∀ v' w',OI w' base v' (xs++[y])->Below base W w'->W.grownBy w' v.ownBlock->wpList Tryz.prog ops Q rest (a.put o.dst v') w') :
  wpList Tryz.prog ops Q (o::rest) a (W.alloc (.cells #[.int .i64 y] 3)):=by
 let⟨i0,hi,hz0,hz1,RV⟩:=info_parts OP
 refine wpList_append_own _ hgd s x 24 ho base 3 i0 (.int .i64 0) 1 8 underlying24 hi hz0 hz1 RV rfl M v xs.length (xs.map (Value.int .i64)) hs (World.ownsRow.alloc hown _) ⟨W.heap.size,0,none⟩ 1 1 [.int .i64 y] hx rfl (cell_one_new _ _ _) (by simp[Value.oneCell']) (by unfold maxLen;omega) Z (by simp;omega) ?_
 intro v' w' hown' hg _
 have hsz:W.heap.size<=w'.heap.size:=iQ M hg.size
 have hg':W.grownBy w' v.ownBlock:=⟨hg.os,hg.tape,hg.output,hsz,fun k hk hne=>(hg.block k (by simp;omega) hne).trans (Below.heap_alloc _ _ _ hk)⟩
 refine h v' w' (by simpa[OI]using hown') ⟨hg.os,hg.tape,hg.output,hsz,fun k hk=>hg'.block k Z (fun e=>?_)⟩ hg'
 have:=hown.aa k e.symm
 omega
end Go.Proofs.YtjibdelmjcenhaaGreatDoor
namespace Go.Proofs
open Go.Shelf
def Tryz.V1:Go.Shelf.Ren:=⟨fun|219=>237|217=>274|225=>275|224=>276|267=>277|266=>294|314=>295|n=>n,fun|9=>9|3=>3|4=>4|5=>5|46=>190|146=>305|51=>251|n=>n,fun|1=>1|n=>n⟩
def Tryz.CT:Go.Shelf.Ren:=⟨fun|144=>158|143=>195|219=>237|217=>274|225=>275|224=>276|267=>277|266=>294|314=>295|n=>n,fun|9=>9|4=>4|3=>3|5=>5|46=>190|146=>305|51=>251|n=>n,fun|1=>1|n=>n⟩
theorem ay{H:Type}{a b:H}(h:a=b:=by kernel_rfl):some a=some b:=dL some h
theorem Tryz.TD:Go.Proofs.Lays.n144 Tryz.prog Tryz.CT:={
 mixed:=by kernel_rfl
 f143:=Tryz.func195.trans ay
 f144:=Tryz.func158.trans ay
 f217:=Tryz.func274.trans ay
 f219:=Tryz.func237.trans ay
 f224:=Tryz.func276.trans ay
 f225:=Tryz.func275.trans ay
 f266:=Tryz.func294.trans ay
 f267:=Tryz.func277.trans ay
 f314:=Tryz.func295.trans ay
 t3:=underlying3
 a3:=isAgg3
 z3:=sizeOf3
 v3:=zeroValue3
 t4:=underlying4
 a4:=isAgg4
 z4:=sizeOf4
 v4:=zeroValue4
 t5:=underlying5
 a5:=isAgg5
 z5:=sizeOf5
 v5:=zeroValue5
 t9:=underlying9
 a9:=isAgg9
 z9:=sizeOf9
 v9:=zeroValue9
 t46:=underlying190
 a46:=isAgg190
 z46:=sizeOf190
 v46:=zeroValue190
 t51:=underlying251
 a51:=isAgg251
 z51:=sizeOf251
 v51:=zeroValue251
 t146:=underlying305
 a146:=isAgg305
 z146:=sizeOf305
 v146:=zeroValue305
 g1:=by kernel_rfl }
open Go.RowKit Go.Lib in
def Tryz.strings_Contains(s sub:ByteArray)(m:Int)(w:World)(hs:s.size<4294967281)(hm:w.cell? ⟨1,0,none⟩=some (.int .i64 m)) :
  Calls Tryz.prog 158 #[.string s,.string sub] w fun e w'=>e=.returned (.bool (Lib.contains s.data.toList sub.data.toList))/\w'=w:=Any.strings_Contains Tryz.TD s sub m w hs hm
def Tryz.xK:Go.Shelf.Ren:=⟨fun|144=>158|143=>195|219=>237|217=>274|225=>275|224=>276|267=>277|266=>294|314=>295|n=>n,fun|9=>9|4=>4|3=>3|5=>5|46=>190|146=>305|51=>251|n=>n,fun|1=>1|n=>n⟩
theorem Tryz.laysM144:Go.Proofs.LaysM.n144 Tryz.prog Tryz.xK:={
 mixed:=by kernel_rfl
 f143:=Tryz.func195.trans ay
 f144:=Tryz.func158.trans ay
 f217:=Tryz.func274.trans ay
 f219:=Tryz.func237.trans ay
 f224:=Tryz.func276.trans ay
 f225:=Tryz.func275.trans ay
 f266:=Tryz.func294.trans ay
 f267:=Tryz.func277.trans ay
 f314:=Tryz.func295.trans ay
 t3:=underlying3
 a3:=isAgg3
 z3:=sizeOf3
 v3:=zeroValue3
 t4:=underlying4
 a4:=isAgg4
 z4:=sizeOf4
 v4:=zeroValue4
 t5:=underlying5
 a5:=isAgg5
 z5:=sizeOf5
 v5:=zeroValue5
 t9:=underlying9
 a9:=isAgg9
 z9:=sizeOf9
 v9:=zeroValue9
 t46:=underlying190
 a46:=isAgg190
 z46:=sizeOf190
 v46:=zeroValue190
 t51:=underlying251
 a51:=isAgg251
 z51:=sizeOf251
 v51:=zeroValue251
 t146:=underlying305
 a146:=isAgg305
 z146:=sizeOf305
 v146:=zeroValue305
 g1:=by kernel_rfl
 i3:=by kernel_rfl
 i4:=by kernel_rfl
 i5:=by kernel_rfl
 i9:=by kernel_rfl
 i46:=by kernel_rfl
 i51:=by kernel_rfl
 i146:=by kernel_rfl
 m1:=by kernel_rfl
 s1_3:=fun w h=>Go.Proofs.cell_of_shapedOpen_int (zero:=#[.int .i64 0]) (t:=3) h (of_decide_eq_true (by kernel_rfl)) (by kernel_rfl) rfl (by kernel_rfl) (by kernel_rfl) underlying3 }
end Go.Proofs
namespace Go.Proofs.YtjibdelmjcenhaaGreatDoor
open Go.RowKit
set_option maxHeartbeats 1000000 in
theorem Zj(r:Int)(w:World) :
  Calls Tryz.prog 212 #[.int .i64 r] w fun e w'=>e=.returned (.int .i64 (Gl.script r))/\w=w':=by
 go_enter func212,ntmps212
 go_wp2
 all_goals go_ret
 all_goals exact⟨yF (by unfold Gl.script;first|omega|(simp at *;omega)),rfl⟩
theorem idx(k:Nat)(hk:k<13)(w:World):(Instr.index 231 (.agg Gl.tab) (.int .i64 (k:Int))).run Tryz.prog w=.ok (.agg #[.int .i32 (Gl.lo k),.int .i32 (Gl.hi k),.int .i64 (Gl.sc k)]) w:=by obtain rfl|rfl|rfl|rfl|rfl|rfl|rfl|rfl|rfl|rfl|rfl|rfl|rfl:k=0∨k=1∨k=2∨k=3∨k=4∨k=5∨k=6∨k=7∨k=8∨k=9∨k=10∨k=11∨k=12:=Z;all_goals kernel_rfl
theorem abj:(Tryz.prog.info? 231).map (·.size)=some Gl.tab.size:=by kernel_rfl
set_option maxHeartbeats 1000000 in
theorem ZX(r:Int)(w:World)(ht:Gl.Tab w) :
  Calls Tryz.prog 159 #[.int .i64 r] w fun e w'=>e=.returned (.int .i64 (Gl.script r))/\Below w.heap.size w w':=by
 obtain⟨t,fr,hg⟩:=ht
 by_cases h0:r<0
 ·go_enter func159,ntmps159
  go_wp2
  go_ret
  exact⟨yF (by unfold Gl.script;omega),Below.refl _ _⟩
 by_cases h1:1114111<r
 ·go_enter func159,ntmps159
  go_wp2
  go_ret
  exact⟨yF (by unfold Gl.script;omega),Below.refl _ _⟩
 go_enter func159,ntmps159
 go_wp2_with (refine wpList_load_row rfl 231 _ rfl 0 rfl t _ fr _ hg underlying231 rfl abj ?_)
 go_loopw [15] (fun i wr=>∃ k:Nat,k<=13/\i=.int .i64 k/\Hid (∀ j,j<k->¬ (Gl.lo j<=r/\r<=Gl.hi j))/\Below w.heap.size w wr) (fun i _=>13-(intOf i).toNat)
 case atStart=>exact⟨0,Z,rfl,fun j hj=>absurd hj Z,Below.refl _ _⟩
 case round =>
  obtain⟨k,hk,rfl,hn,hb⟩:=hrel
  by_cases au:k<13
  ·have hi:=fun W=>idx k au W
   have hsz:=hb.size
   by_cases h2:Gl.lo k<=r
   ·by_cases h3:r<=Gl.hi k
    ·go_wp2
     go_ret
     exact⟨yF (Gl.NI r k au h2 h3),hb.alloc hsz _⟩
    ·go_wp2
     go_roundw
     case rel=>exact⟨k+1,Z,by go_num,Iw hn.out (fun h=>h3 h.2),hb.alloc hsz _⟩
     case measure=>simp[intOf];omega
   ·go_wp2
    go_roundw
    case rel=>exact⟨k+1,Z,by go_num,Iw hn.out (fun h=>h2 h.1),hb.alloc hsz _⟩
    case measure=>simp[intOf];omega
  ·obtain rfl:k=13:=Z
   go_wp2
   go_ret
   exact⟨yF (Gl.Kx r hn.out),hb⟩
end Go.Proofs.YtjibdelmjcenhaaGreatDoor
namespace Go.Proofs.YtjibdelmjcenhaaGreatDoor
namespace Gl
def unit(r:Int):List UInt8 :=
 if r<128 then[UInt8.ofNat r.toNat]
 else if r<2048 then[UInt8.ofNat (192+r.toNat/64),UInt8.ofNat (128+r.toNat%64)]
 else[UInt8.ofNat (224+r.toNat/4096),UInt8.ofNat (128+r.toNat/64%64),UInt8.ofNat (128+r.toNat%64)]
def value:List UInt8->Int
 |[a]=>a.toNat
 |[a,b]=>a.toNat%32*64+b.toNat%64
 |a::b::c::_=>a.toNat%16*4096+b.toNat%64*64+c.toNat%64
 |[]=>0
def fits(n:Nat)(l:List UInt8):Bool:=decide (n<=l.length)&&decide (0<=script (value (l.take n)))&&decide (unit (value (l.take n))=l.take n)
def first(l:List UInt8):Option Int :=
 if fits 1 l then some (value (l.take 1))else if fits 2 l then some (value (l.take 2))else if fits 3 l then some (value (l.take 3))else none
def decodeN:Nat->List UInt8->Option (List Int)
 |0,l=>if l=[]then some []else none
 |f+1,l=>if l=[]then some []else match first l with
  |none=>none
  |some r=>(decodeN f (l.drop (unit r).length)).map (r::·)
def decode(l:List UInt8):Option (List Int):=decodeN l.length l
def units(L:List Int):List UInt8:=L.flatMap unit
def valid(L:List Int):Bool:=L.all fun r=>decide (0<=script r)
theorem ZO(r:Int):(unit r).length=if r<128 then 1 else if r<2048 then 2 else 3:=by unfold unit;grind
theorem ZY(r:Int):1<=(unit r).length/\(unit r).length<=3:=by rw[ZO];grind
variable {r:Int}
theorem zc2(h0:0<=r)(h:r<128):∃ a,unit r=[a]/\(a.toNat:Int)=r:=by refine⟨_,by unfold unit;rw[bU h],?_⟩;rw[zmi];omega
theorem Yj(h0:128<=r)(h:r<2048):∃ a b,unit r=[a,b]/\a.toNat=192+r.toNat/64/\b.toNat=128+r.toNat%64:=by refine⟨_,_,by unfold unit;rw[b9 Z,bU h],?_,?_⟩<;>rw[zmi]<;>omega
theorem zah(h0:2048<=r)(h:r<=65535):∃ a b c,unit r=[a,b,c]/\a.toNat=224+r.toNat/4096/\b.toNat=128+r.toNat/64%64/\c.toNat=128+r.toNat%64:=by refine⟨_,_,_,by unfold unit;rw[b9 Z,b9 Z],?_,?_,?_⟩<;>rw[zmi]<;>omega
theorem zgk(h0:0<=r)(h:r<=65535):value (unit r)=r:=by
 by_cases h1:r<128
 .let⟨a,e,ha⟩:=zc2 h0 h1;rw[e];simp[value,ha]
 by_cases h2:r<2048
 .let⟨a,b,e,ha,hb⟩:=Yj Z h2;rw[e];simp only[value,ha,hb];omega
 .let⟨a,b,c,e,ha,hb,hc⟩:=zah Z h;rw[e];simp only[value,ha,hb,hc];omega
variable {l:List UInt8}{n:Nat}
theorem nN:fits n l=true↔n<=l.length/\0<=script (value (l.take n))/\unit (value (l.take n))=l.take n:=by unfold fits;grind
theorem pZ(h:fits n l=true):(unit (value (l.take n))).length=n:=by obtain⟨h1,_,h2⟩:=nN.1 h;grind
theorem zgl(h:first l=some r):0<=script r/\∃ t,l=unit r++t:=by
 unfold first at h
 have key:∀ n,fits n l=true->0<=script (value (l.take n))/\∃ t,l=unit (value (l.take n))++t:=fun n hn=>by obtain⟨_,h2,h3⟩:=nN.1 hn;exact⟨h2,l.drop n,by simp[*]⟩
 grind
theorem Lr(h:0<=script r)(t:List UInt8):fits (unit r).length (unit r++t)=true:=by have hb:=fm h;rw[nN];rw[List.take_left,zgk Z Z];grind
theorem zay(h:0<=script r)(t:List UInt8):first (unit r++t)=some r:=by
 have hb:=fm h;have hf:=Lr h t;have hv:value ((unit r++t).take (unit r).length)=r:=by rw[List.take_left,zgk Z Z]
 by_cases h1:r<128
 .rw[(show(unit r).length=1 by rw[ZO,bU h1])]at hf hv;unfold first;grind
 by_cases h2:r<2048
 .have n1:¬ fits 1 (unit r++t)=true:=fun hn=>by have hn2:=pZ hn;obtain⟨a,b,e,ha,hb'⟩:=Yj (r:=r) Z h2;rw[e]at hn2;simp[gu,zma,W3,value]at hn2;rw[ZO,b9 Z]at hn2;grind
  rw[(show(unit r).length=2 by rw[ZO,b9 h1,bU h2])]at hf hv;unfold first;grind
 .obtain⟨a,b,c,e,ha,hb',hc⟩:=zah (r:=r) Z Z;have n1:¬ fits 1 (unit r++t)=true:=fun hn=>by have hn2:=pZ hn;rw[e]at hn2;simp[gu,zma,W3,value]at hn2;rw[ZO,b9 Z]at hn2;split at hn2<;>omega
  have n2:¬ fits 2 (unit r++t)=true:=fun hn=>by
   have hn2:=pZ hn;obtain⟨_,_,hn3⟩:=nN.1 hn;rw[e]at hn2 hn3;simp[gu,zma,W3,value]at hn2 hn3;rw[ZO]at hn2;have q1:¬ (↑a.toNat%32*64+↑b.toNat%64:Int)<128:=fun hh=>by grind
   rw[b9 q1]at hn2;have q2:(↑a.toNat%32*64+↑b.toNat%64:Int)<2048:=by omega
   let⟨a',b',e',ha2,fE⟩:=Yj Z q2;grind
  rw[(show(unit r).length=3 by rw[ZO,b9 h1,b9 h2])]at hf hv;unfold first;grind
theorem T9(h:0<l.length)(hs:0<=script ((Lib.decodeL l).1:Int)):first l=some ((Lib.decodeL l).1:Int)/\(Lib.decodeL l).2=(unit ((Lib.decodeL l).1:Int)).length:=by
 have key:∀ c:Nat,0<=script (c:Int)->∀ t,l=unit (c:Int)++t->first l=some (c:Int):=fun c hc t e=>by rw[e];exact zay hc t
 have hbd:=fm hs;rw[Lib.decodeL_N]at hs hbd ⊢;unfold Lib.decodeN at hs hbd ⊢;match l,h with
 |a::l',_ =>
  simp only[fB,zl9,zm3]at hs hbd key ⊢
  by_cases h1:a.toNat<128
  .simp[h1,if_true]at hs hbd ⊢
   obtain⟨a',e,ha⟩:=zc2 (r:=(a.toNat:Int)) Z Z
   have ea:a'=a:=zls Z
   subst ea
   exact⟨key _ hs l' (by grind),by grind⟩
  simp only[h1,if_false]at hs hbd ⊢
  by_cases h2:a.toNat/32=6/\(1<l'.length+1/\(l'.getD 0 0).toNat/64=2)
  .simp only[h2,MD,if_true]at hs hbd ⊢
   match l',h2 with
   |b::l'',h2 =>
    simp only[zl9]at h2 hs hbd key ⊢
    by_cases h3:a.toNat%32*64+b.toNat%64≥128
    .simp only[h3,if_true]at hs hbd ⊢
     obtain⟨a',b',e,ha,hb⟩:=Yj (r:=((a.toNat%32*64+b.toNat%64:Nat):Int)) Z Z
     have th:=b.toNat_lt
     have ea:a'=a:=zls Z
     have eb:b'=b:=zls Z
     subst ea eb
     exact⟨key _ hs l'' (by grind),by grind⟩
    grind
   |[],h2=>grind
  rw[b9 h2]at hs hbd ⊢
  by_cases h4:a.toNat/16=14/\(1<l'.length+1/\(l'.getD 0 0).toNat/64=2)/\(2<l'.length+1/\(l'.getD 1 0).toNat/64=2)
  .rw[bU h4]at hs hbd ⊢
   obtain⟨b,c,l'',rfl⟩:∃ b c l'',l'=b::c::l'':=by
    cases l' with
    |nil=>grind
    |cons b l1 =>
     cases l1 with
     |nil=>grind
     |cons c l2=>simp
   simp only[zl9,zm3]at h4 hs hbd key ⊢
   generalize hR:a.toNat%16*4096+b.toNat%64*64+c.toNat%64=R at *
   by_cases h5:R≥2048/\(R<55296∨(57344<=R/\R<=1114111))
   .rw[bU h5]at hs hbd ⊢
    simp at hs hbd ⊢
    obtain⟨a',b',c',e,ha,hb,hc⟩:=zah (r:=(R:Int)) Z Z
    have hal:=a.toNat_lt
    have th:=b.toNat_lt
    have jM:=c.toNat_lt
    have ea:a'=a:=zls Z
    have eb:b'=b:=zls Z
    have ec:c'=c:=zls Z
    subst ea eb ec
    exact⟨key _ hs l'' (by grind),by grind⟩
   grind
  grind
theorem T8(h:0<=script r)(t:List UInt8):Lib.decodeL (unit r++t)=(r.toNat,(unit r).length):=by
 have hb:=fm h;rw[Lib.decodeL_N];unfold Lib.decodeN;by_cases h1:r<128
 .obtain⟨a,e,ha⟩:=zc2 (r:=r) Z h1;grind
 by_cases h2:r<2048
 .obtain⟨a,b,e,ha,hb'⟩:=Yj (r:=r) Z h2;rw[e];grind
 .obtain⟨a,b,c,e,ha,hb',hc⟩:=zah (r:=r) Z Z;grind
theorem Ua(hs:script ((Lib.decodeL l).1:Int)<0):first l=none:=by
 cases hf:first l with
 |none=>rfl
 |some r =>
  let⟨h0,t,e⟩:=zgl hf
  have hb:=fm h0
  rw[e,T8 h0]at hs
  grind
theorem YY:∀(f:Nat)(l:List UInt8)(L:List Int),l.length<=f->(decodeN f l=some L↔valid L=true/\l=units L)
 |0,l,L,h=>by
  have hl:l=[]:=uc.1 Z;exact xaw
 |f+1,l,L,h=>by
  by_cases hl:l=[]
  .exact xaw
  .have hpos:0<l.length:=MH.2 hl;simp[decodeN,b9 hl];cases hf:first l with
   |none =>
    constructor
    .grind
    .rintro⟨h1,h2⟩
     cases L with
     |nil=>exact absurd h2 hl
     |cons r L =>
      simp only[valid,oO,kE,pM]at h1
      rw[h2,show units (r::L)=unit r++units L from rfl,zay h1.1]at hf
      grind
   |some r =>
    let⟨h0,t,e⟩:=zgl hf
    have hb:=(ZY r).1
    have ht:l.drop (unit r).length=t:=by grind
    have ih:=YY f t
    have hlen:t.length<=f:=by grind
    simp only[ht]
    constructor
    .intro h
     cases hd:decodeN f t with
     |none=>grind
     |some xgu =>
      rw[hd]at h
      injection h with h
      subst h
      let⟨v1,v2⟩:=(ih xgu hlen).1 hd
      refine⟨?_,?_⟩
      .simp only[valid,oO,kE,pM];exact⟨h0,v1⟩
      .rw[e,v2];rfl
    .rintro⟨h1,h2⟩
     cases L with
     |nil=>exact absurd h2 hl
     |cons r' L =>
      simp only[valid,oO,kE,pM]at h1
      have e2:l=unit r'++units L:=h2
      have hr:r'=r:=by rw[e2,zay h1.1]at hf;grind
      subst hr
      rw[(ih L hlen).2 ⟨h1.2,(show units L=t by grind).symm⟩];rfl
def mO(l:List UInt8)(L:List Int):decode l=some L↔valid L=true/\l=units L:=YY l.length l L (cI _)
theorem zby(f:Nat)(l:List UInt8)(h:l.length<=f):decodeN f l=decode l:=by
 have h1:=YY f l;have h2:=mO l;cases hd:decodeN f l with
 |some L=>grind
 |none =>
  cases hd2:decode l with
  |none=>rfl
  |some L=>grind
def Gp:decode []=some []:=rfl
theorem lG(h:0<l.length):decode l=match first l with|none=>none|some r=>(decode (l.drop (unit r).length)).map (r::·):=by
 rw[←zby (l.length+1) l Z];simp[decodeN,b9 (MH.1 h)];cases hf:first l with
 |none=>rfl
 |some r=>simp only;rw[zby _ _ M]
theorem v7(L xgu:List Int):units (L++xgu)=units L++units xgu:=by simp[units]
theorem vZ(L xgu:List Int):valid (L++xgu)=(valid L&&valid xgu):=by simp[valid]
theorem Kb(L:List Int):L.length<=(units L).length/\(units L).length<=3*L.length:=by
 induction L with
 |nil=>decide
 |cons r L ih =>
  have:=ZY r
  have e:units (r::L)=unit r++units L:=rfl
  grind
end Gl
end Go.Proofs.YtjibdelmjcenhaaGreatDoor
namespace Go.Proofs.YtjibdelmjcenhaaGreatDoor
open Go.RowKit
theorem ZD(a:UInt8):wrap64 (a.toNat:Int)=a.toNat:=by have:=a.toNat_lt;exact xfj
def zbz{a b:Int}(h:0<=a):a.tmod b=a%b:=Int.tmod_eq_emod_of_nonneg h
theorem afs(a b:UInt8):wrap64 (wrap64 ((wrap64 (a.toNat:Int)).tmod 32*64)+(wrap64 (b.toNat:Int)).tmod 64)=Gl.value [a,b]:=by rw[ZD,ZD,zbz Z,zbz Z];rw[(IntWalk.wrap64_in _ ⟨Z,Z⟩:wrap64 ((a.toNat:Int)%32*64)=(a.toNat:Int)%32*64)];exact xfj
theorem afr(a b c:UInt8):wrap64 (wrap64 (wrap64 ((wrap64 (a.toNat:Int)).tmod 16*4096)+wrap64 ((wrap64 (b.toNat:Int)).tmod 64*64))+(wrap64 (c.toNat:Int)).tmod 64)=Gl.value [a,b,c]:=by rw[ZD,ZD,ZD,zbz Z,zbz Z,zbz Z];rw[(IntWalk.wrap64_in _ ⟨Z,Z⟩:wrap64 ((a.toNat:Int)%16*4096)=(a.toNat:Int)%16*4096),(IntWalk.wrap64_in _ ⟨Z,Z⟩:wrap64 ((b.toNat:Int)%64*64)=(b.toNat:Int)%64*64)];rw[(IntWalk.wrap64_in _ ⟨Z,Z⟩:wrap64 ((a.toNat:Int)%16*4096+(b.toNat:Int)%64*64)=(a.toNat:Int)%16*4096+(b.toNat:Int)%64*64)];exact xfj
theorem S6(a:UInt8)(w:World) :
  Calls Tryz.prog 211 #[.string ⟨#[a]⟩] w fun e w'=>e=.returned (.int .i64 (Gl.value [a]))/\Below w.heap.size w w':=by
 go_enter func211,ntmps211
 go_wp2
 go_ret
 exact⟨yF (ZD a),Below.refl _ _⟩
theorem S5(a b:UInt8)(w:World) :
  Calls Tryz.prog 211 #[.string ⟨#[a,b]⟩] w fun e w'=>e=.returned (.int .i64 (Gl.value [a,b]))/\Below w.heap.size w w':=by
 go_enter func211,ntmps211
 go_wp2
 go_quiet (fail)
 go_wp2
 go_ret
 exact⟨yF (afs a b),Go.below_drewN (Below.refl _ _) _⟩
theorem S4(a b c:UInt8)(w:World) :
  Calls Tryz.prog 211 #[.string ⟨#[a,b,c]⟩] w fun e w'=>e=.returned (.int .i64 (Gl.value [a,b,c]))/\Below w.heap.size w w':=by
 go_enter func211,ntmps211
 go_wp2
 go_quiet (fail)
 go_wp2
 go_ret
 exact⟨yF (afr a b c),Go.below_drewN (Below.refl _ _) _⟩
theorem Fg(s:ByteArray)(w:World)(h1:1<=s.size)(h3:s.size<=3) :
  Calls Tryz.prog 211 #[.string s] w fun e w'=>e=.returned (.int .i64 (Gl.value s.data.toList))/\Below w.heap.size w w':=by
 let⟨⟨l⟩⟩:=s
 match l,h1,h3 with
 |[a],_,_=>exact S6 a w
 |[a,b],_,_=>exact S5 a b w
 |[a,b,c],_,_=>exact S4 a b c w
 |[],h,_=>simp[ByteArray.size]at h
 |a::b::c::d::r,_,h=>simp[ByteArray.size]at h
theorem Xt{x:Int}(h0:0<=x)(h1:x<=255):((UInt8.ofNat x.toNat).toNat:Int)=x:=by rw[zmi];omega
theorem zgm(xs:List Int)(h:∀ x∈xs,0<=x/\x<=255)(w:World) :
  (convert 264 9 (.slice (some ⟨w.heap.size,0,none⟩) xs.length xs.length)).run Tryz.prog (w.alloc (.cells (xs.map (Value.int .u8)).toArray 5)) =
   .ok (.string ⟨(xs.map (fun x=>UInt8.ofNat x.toNat)).toArray⟩) (w.alloc (.cells (xs.map (Value.int .u8)).toArray 5)):=by
 have:=run_convert_bytes_back (P:=Tryz.prog) (w.alloc (.cells (xs.map (Value.int .u8)).toArray 5)) 264 9 5 ⟨w.heap.size,0,none⟩ xs.length (xs.map (fun x=>UInt8.ofNat x.toNat)) underlying264 underlying5 underlying9 (fun j hj=>by
  have hj':j<xs.length:=by grind
  rw[(show(Addr.add ⟨w.heap.size,0,none⟩ j)=⟨w.heap.size,j,none⟩ by unfold Addr.add;grind)];simp only[List.getElem_map];let⟨a,b⟩:=h xs[j] (gQ _);rw[Xt a b];simp)
 grind
variable {l:List UInt8}
theorem wT{l':List UInt8}(h:l=l'):Ending.returned (.string ⟨l.toArray⟩)=.returned (.string ⟨l'.toArray⟩):=by rw[h]
variable {r:Int}
def Gl.Nb(h:r<128):Gl.unit r=[UInt8.ofNat r.toNat]:=xf6
def Gl.M9(h0:0<=r)(h1:128<=r)(h:r<2048):Gl.unit r=[UInt8.ofNat (192+r/64).toNat,UInt8.ofNat (128+r%64).toNat]:=xf6
def Gl.E0(h0:0<=r)(h:2048<=r):Gl.unit r=[UInt8.ofNat (224+r/4096).toNat,UInt8.ofNat (128+r/64%64).toNat,UInt8.ofNat (128+r%64).toNat]:=xf6
theorem uy(r:Int)(w:World)(h0:0<=r)(h1:r<=65535) :
  Calls Tryz.prog 213 #[.int .i64 r] w fun e w'=>e=.returned (.string ⟨(Gl.unit r).toArray⟩)/\Below w.heap.size w w':=by
 by_cases h2:r<128
 .have hk:=zgm [r] (by grind)
  simp only[mQ,tX,fB,gq]at hk
  go_enter func213,ntmps213
  go_wp2
  go_ret
  exact⟨wT (Gl.Nb h2).symm,(Below.refl _ _).alloc (cI _) _⟩
 by_cases h3:r<2048
 .have hk:=zgm [192+r/64,128+r%64] (by grind)
  simp only[mQ,tX,fB,gq]at hk
  go_enter func213,ntmps213
  go_wp2
  go_ret
  exact⟨wT (Gl.M9 h0 Z h3).symm,(Below.refl _ _).alloc (cI _) _⟩
 .have hk:=zgm [224+r/4096,128+r/64%64,128+r%64] (by grind)
  simp only[mQ,tX,fB,gq]at hk
  go_enter func213,ntmps213
  go_wp2
  go_ret
  exact⟨wT (Gl.E0 h0 Z).symm,(Below.refl _ _).alloc (cI _) _⟩
def rC(o:Option (List Int))(w:World)(e:Ending)(w':World):Prop :=
 Below w.heap.size w w'/\∃ v,OI w' w.heap.size v (o.getD [])/\e=.returned (.tuple #[v,.int .i64 (if o.isSome then 0 else 4)])
variable {s:ByteArray}
theorem Qr{pos:Nat}(h:pos<s.size)(hs:0<=Gl.script ((Utf8.decode s pos).1:Int))(acc:List Int)
  (ha:Gl.decode s.data.toList=(Gl.decode (s.data.toList.drop pos)).map (acc++·)) :
  Gl.decode s.data.toList=(Gl.decode (s.data.toList.drop (pos+(Utf8.decode s pos).2))).map ((acc++[((Utf8.decode s pos).1:Int)])++·):=by
 rw[←Lib.decodeL_drop]at hs ⊢
 have hl:0<(s.data.toList.drop pos).length:=xbe
 let⟨h1,h2⟩:=Gl.T9 hl hs
 rw[ha,Gl.lG hl,h1]
 simp only
 rw[W4,←h2,J4]
 congr 1
 grind
theorem Qs{pos:Nat}(h:pos<s.size)(hs:Gl.script ((Utf8.decode s pos).1:Int)<0)(acc:List Int)
  (ha:Gl.decode s.data.toList=(Gl.decode (s.data.toList.drop pos)).map (acc++·)):Gl.decode s.data.toList=none:=by
 rw[←Lib.decodeL_drop]at hs
 have hl:0<(s.data.toList.drop pos).length:=xbe
 rw[ha,Gl.lG hl,Gl.Ua hs];rfl
theorem Jr{pos:Nat}(h:¬ pos<s.size)(acc:List Int)
  (ha:Gl.decode s.data.toList=(Gl.decode (s.data.toList.drop pos)).map (acc++·)):Gl.decode s.data.toList=some acc:=by
 have:=Lib.size_eq s
 rw[ha,List.drop_of_length_le Z,Gl.Gp];simp
set_option maxHeartbeats 4000000 in
theorem Dj(s:ByteArray)(w:World)(ht:Gl.Tab w)(hs:s.size<=10000000000000) :
  Calls Tryz.prog 157 #[.string s] w (rC (Gl.decode s.data.toList) w):=by
 have hv:=ht.lt
 go_enter func157,ntmps157
 go_wp2_with fail
 go_loopw [2] (fun v wr=>∃(pos:Nat)(acc:List Int),OI wr (w.heap.size+1) v acc/\wr.heap[w.heap.size]?=some (.stringIter s pos)/\Below w.heap.size w wr/\Hid (Gl.decode s.data.toList=(Gl.decode (s.data.toList.drop pos)).map (acc++·))/\acc.length<=pos/\acc.length<=s.size) (fun _ wr=>s.size-wr.iterPos w.heap.size)
 case atStart =>
  exact⟨0,[],OI.nil _ _,by have:=World.iter_heap w s 0;simpa using this,(Below.refl _ w).alloc (cI _) _,by simp[Hid],M,M⟩
 case round =>
  obtain⟨pos,acc,hown,hit,F6,hacc,hal,ahr⟩:=hrel
  have hsz:w.heap.size<wr.heap.size:=(RQ.1 hit).1
  have EJ:=ht.below F6 (cI _)
  by_cases hp:pos<s.size
  .have qm:∀ ty,(Instr.next (.pointer (some ⟨w.heap.size,0,none⟩)) true ty).run Tryz.prog wr=_:=fun ty=>Lib.run_next_any_at wr w.heap.size s pos ty hit hp
   have hwd:=Lib.width_pos s pos
   have R4:=decode_le s pos
   have r8:=hown.iterAt (zl5 _) s (pos+(Utf8.decode s pos).2)
   have ae3:=Lib.iterAt_heap wr w.heap.size s pos (pos+(Utf8.decode s pos).2) hit
   have ae9:=Lib.below_iterAt F6 (k:=w.heap.size) Z s (pos+(Utf8.decode s pos).2)
   have aew:=EJ.iterAt (k:=w.heap.size) Z s (pos+(Utf8.decode s pos).2)
   by_cases h0:Gl.script ((Utf8.decode s pos).1:Int)<0
   .have Lj:=Qs hp h0 acc hacc.out
    have HF:=Lib.hid Lj
    clear Lj
    go_wp2_with (go_at_call 159;refine(ZX _ _ aew).mono ?_;rintro e w1 ⟨rfl,kK⟩)
    go_ret2
    exact⟨ae9.trans (kK.mono xda),.slice none 0 0,by rw[HF.out];exact OI.nil _ _,by rw[HF.out];rfl⟩
   .have Pu:=Lib.hid (Qr hp Z acc hacc.out)
    go_wp2_with (go_at_call 159;refine(ZX _ _ aew).mono ?_)
    rintro e w1 rfl kK
    have hz1:=kK.size
    rw[Lib.iterAt_size]at hz1
    have C4:=r8.below kK (cI _)
    go_wp2_with (at_builtin;go_loud (refine zgj rfl _ _ rfl w1 (w.heap.size+1) u2 acc ((Utf8.decode s pos).1:Int) rfl C4 rfl Z Z ?_;intro v' w2 O8 fE hg2))
    go_roundw
    case rel =>
     have hi1:w1.heap[w.heap.size]?=some (.stringIter s (pos+(Utf8.decode s pos).2)):=(kK.block _ xda).trans ae3
     exact⟨pos+(Utf8.decode s pos).2,acc++[((Utf8.decode s pos).1:Int)],O8,(fE.block _ Z).trans hi1,(ae9.trans (kK.mono xda)).trans (fE.mono Z),Pu,by simp;omega,by simp;omega⟩
    case measure =>
     have hi1:w1.heap[w.heap.size]?=some (.stringIter s (pos+(Utf8.decode s pos).2)):=(kK.block _ xda).trans ae3
     simp only[World.iterPos,(fE.block _ Z).trans hi1,hit]
     omega
  .have qm:∀ ty,(Instr.next (.pointer (some ⟨w.heap.size,0,none⟩)) true ty).run Tryz.prog wr=_:=fun ty=>Lib.run_next_end_at wr w.heap.size s pos ty hit hp
   have Lj:=Lib.hid (Jr hp acc hacc.out)
   go_wp2_with fail
   go_ret2
   exact⟨F6,_,by rw[Lj.out];exact hown.mono Z,by rw[Lj.out];rfl⟩
theorem Ag(s:ByteArray)(i n:Nat):(s.extract i (i+n)).data.toList=(s.data.toList.drop i).take n:=by simp
def sZ(l:List UInt8)(m:Nat):Prop:=∀ j,1<=j->j<m->Gl.fits j l=false
variable {m:Nat}
theorem Lt(hn:sZ l m)(hm1:1<=m)(Wi:m<=3)(hf:Gl.fits m l=true):Gl.first l=some (Gl.value (l.take m)):=by
 unfold Gl.first;obtain rfl|rfl|rfl:m=1∨m=2∨m=3:=Z
 .grind
 .rw[b9 (by rw[hn 1 Z Z];simp),bU hf]
 .rw[b9 (by rw[hn 1 Z Z];simp),b9 (by rw[hn 2 Z Z];simp),bU hf]
theorem Dw(hn:sZ l m)(hm:4<=m∨l.length<m):Gl.first l=none:=by
 have h:∀ j,1<=j->j<=3->Gl.fits j l=false:=fun j h1 h3=>by
  by_cases hj:j<m
  .exact hn j h1 hj
  .unfold Gl.fits;grind
 unfold Gl.first;grind
theorem zgn(hn:sZ l m)(hf:Gl.fits m l=false):sZ l (m+1):=fun j h1 h2=>by
 rcases zlo (zly h2)with h|rfl
 .exact hn j h1 h
 omega
theorem KN{pos:Nat}(h:pos<s.size)(hn:sZ (s.data.toList.drop pos) m)(hm1:1<=m)(Wi:m<=3)(hf:Gl.fits m (s.data.toList.drop pos)=true)(acc:List Int)
  (ha:Gl.decode s.data.toList=(Gl.decode (s.data.toList.drop pos)).map (acc++·)) :
  Gl.decode s.data.toList=(Gl.decode (s.data.toList.drop (pos+m))).map ((acc++[Gl.value ((s.data.toList.drop pos).take m)])++·):=by
 have hl:0<(s.data.toList.drop pos).length:=xbe
 rw[ha,Gl.lG hl,(Lt hn hm1 Wi hf)]
 simp only
 rw[W4,Gl.pZ hf,J4]
 congr 1
 grind
theorem KO{pos:Nat}(h:pos<s.size)(hn:sZ (s.data.toList.drop pos) m)(hm:4<=m∨s.size<pos+m)(acc:List Int)
  (ha:Gl.decode s.data.toList=(Gl.decode (s.data.toList.drop pos)).map (acc++·)):Gl.decode s.data.toList=none:=by
 have hl:0<(s.data.toList.drop pos).length:=xbe
 rw[ha,Gl.lG hl,Dw hn xbe];rfl
theorem Uf{pos:Nat}(hps:pos+m<=s.size)(r:Int)(hr:Gl.value ((s.data.toList.drop pos).take m)=r) :
  Gl.fits m (s.data.toList.drop pos)=(decide (0<=Gl.script r)&&decide (Gl.unit r=(s.data.toList.drop pos).take m)):=by
 unfold Gl.fits
 have:m<=(s.data.toList.drop pos).length:=xbe
 grind
def tH{w:World}{B:Nat}{v:Value}{xs:List Int}(h:OI w B v xs){n:Nat}:OI (w.drewN n) B v xs:=h
def KE(r:Int)(w:World) :
  Calls Tryz.prog 212 #[.int .i64 r] w fun e w'=>e=.returned (.int .i64 (Gl.script r))/\w'=w:=(Zj r w).mono fun _ _ h=>⟨h.1,h.2.symm⟩
set_option maxHeartbeats 4000000 in
theorem B4(s:ByteArray)(w:World)(hs:s.size<=10000000000000) :
  Calls Tryz.prog 177 #[.string s] w (rC (Gl.decode s.data.toList) w):=by
 go_enter func177,ntmps177
 go_wp2_with fail
 go_loopw [4,5] (fun v i wr=>∃(pos:Nat)(acc:List Int),i=.int .i64 pos/\pos<=s.size/\OI wr w.heap.size v acc/\Below w.heap.size w wr/\Hid (Gl.decode s.data.toList=(Gl.decode (s.data.toList.drop pos)).map (acc++·))/\acc.length<=pos) (fun _ i _=>s.size-(intOf i).toNat)
 case atStart=>exact⟨0,[],rfl,Z,OI.nil _ _,Below.refl _ _,by simp[Hid],M⟩
 case round =>
  obtain⟨pos,acc,rfl,hpos,hown,F6,hacc,hal⟩:=hrel
  by_cases hp:pos<s.size
  ·obtain⟨wo,rfl⟩:∃ wo:World,wo=wr:=⟨_,rfl⟩
   go_wp2_with fail
   go_loopw [4,6,7] (fun v u n wr=>∃ m:Nat,1<=m/\m<=4/\Below w.heap.size w wr/\sZ (s.data.toList.drop pos) m /\
    ((u=.int .i64 0/\n=.int .i64 m/\OI wr w.heap.size v acc) ∨
     (u=.int .i64 m/\n=.int .i64 (m+1)/\m<=3/\Gl.fits m (s.data.toList.drop pos)=true/\OI wr w.heap.size v (acc++[Gl.value ((s.data.toList.drop pos).take m)])))) (fun _ _ n _=>5 - (intOf n).toNat)
   case atStart=>exact⟨1,Z,Z,F6,fun j h1 h2=>absurd h1 Z,Or.inl ⟨rfl,rfl,hown⟩⟩
   case round =>
    obtain⟨m,hm1,hm4,Lm,hno,Db⟩:=hrel
    rcases Db with⟨rfl,rfl,r8⟩|⟨rfl,rfl,Wi,hfit,r8⟩
    ·by_cases hm:m<=3/\pos+m<=s.size
     ·obtain⟨Wi,hps⟩:=hm
      have hxl:(s.extract pos (pos+m)).size=m:=by simp;omega
      have nJ:=Fg (s.extract pos (pos+m))
      have hxe:=Ag s pos m
      rw[hxe,hxl]at nJ
      have hfo:=Uf hps _ rfl
      generalize hr:Gl.value ((s.data.toList.drop pos).take m)=r at *
      have HR:=Lib.hid hr
      have HXE:=Lib.hid hxe
      have HFO:=Lib.hid hfo
      have HC:=Lib.hid nJ
      clear hr hxe hxl hfo nJ
      by_cases h0:0<=Gl.script r
      ·have h0':decide (0<=Gl.script r)=true:=by simpa using h0
       have hbd:=Gl.fm h0
       have hte:(s.extract pos (pos+m)).toList=(s.data.toList.drop pos).take m:=by rw[Lib.toList_data,HXE.out]
       by_cases hu:Gl.unit r=(s.data.toList.drop pos).take m
       ·have hub:(Gl.unit r==(s.extract pos (pos+m)).toList)=true:=by rw[hte];simpa using hu
        have HFT:Hid (Gl.fits m (s.data.toList.drop pos)=true):=by show _=true;rw[HFO.out,h0'];simpa using hu
        clear hu hte
        go_wp2_with (go_at_call 211;refine(HC.out _ Z Z).mono ?_;rintro e w1 ⟨rfl,kK⟩)
        have k1:IntKind.i64.wrap ((pos:Int)+(m:Int))=(pos:Int)+(m:Int):=IntWalk.i64_in _ ⟨Z,Z⟩
        have k2:(0:Int)<=(pos:Int)+(m:Int):=Z
        have k3:((pos:Int)+(m:Int)).toNat=pos+m:=Z
        have k4:(pos:Int)<=(pos:Int)+(m:Int):=Z
        have k5:(pos:Int)+(m:Int)<=(s.size:Int):=Z
        have k6:(0:Int)<=(pos:Int):=Z
        go_region_held3 (fun _=>True) (trivial) (first|(go_at_call 212;refine(Zj _ _).mono ?_;rintro e w' ⟨rfl,rfl⟩)|(go_at_call 213;refine(uy _ _ Z Z).mono ?_;rintro e w2 ⟨rfl,fE⟩))
        clear k1 k2 k3 k4 k5 k6
        have fE:Below w1.heap.size w1 w2:=⟨fE.os,fE.tape,fE.output,fE.size,fE.block⟩
        have C4:OI w2 w.heap.size u4 acc:=(r8.below kK (cI _)).below fE (cI _)
        have hz1:=kK.size
        have RV:=fE.size
        have hz0:=Lm.size
        go_wp2_with (at_builtin;refine zgj rfl _ _ rfl w2 w.heap.size u4 acc r rfl C4 rfl Z Z ?_;intro v' w3 O8 hb3 hg3)
        go_roundw
        case rel=>exact⟨m,Z,Z,((Lm.trans (kK.mono Lm.size)).trans (fE.mono Z)).trans hb3,hno,Or.inr ⟨rfl,rfl,Wi,HFT.out,by rw[HR.out];exact O8⟩⟩
        case measure=>simp[intOf];omega
       ·have hub:(Gl.unit r==(s.extract pos (pos+m)).toList)=false:=by rw[hte];simpa using hu
        have HN:=Lib.hid (zgn hno (by rw[HFO.out,h0'];simpa using hu))
        clear hu hte
        go_wp2_with (go_at_call 211;refine(HC.out _ Z Z).mono ?_;rintro e w1 ⟨rfl,kK⟩)
        have k1:IntKind.i64.wrap ((pos:Int)+(m:Int))=(pos:Int)+(m:Int):=IntWalk.i64_in _ ⟨Z,Z⟩
        have k2:(0:Int)<=(pos:Int)+(m:Int):=Z
        have k3:((pos:Int)+(m:Int)).toNat=pos+m:=Z
        have k4:(pos:Int)<=(pos:Int)+(m:Int):=Z
        have k5:(pos:Int)+(m:Int)<=(s.size:Int):=Z
        have k6:(0:Int)<=(pos:Int):=Z
        go_region_held3 (fun _=>True) (trivial) (first|(go_at_call 212;refine(Zj _ _).mono ?_;rintro e w' ⟨rfl,rfl⟩)|(go_at_call 213;refine(uy _ _ Z Z).mono ?_;rintro e w2 ⟨rfl,fE⟩))
        clear k1 k2 k3 k4 k5 k6
        have fE:Below w1.heap.size w1 w2:=⟨fE.os,fE.tape,fE.output,fE.size,fE.block⟩
        have C4:OI w2 w.heap.size u4 acc:=(r8.below kK (cI _)).below fE (cI _)
        have hz1:=kK.size
        have hz0:=Lm.size
        go_wp2_with fail
        go_roundw
        case rel=>exact⟨m+1,Z,Z,(Lm.trans (kK.mono Lm.size)).trans (fE.mono Z),HN.out,Or.inl ⟨rfl,by go_num,C4⟩⟩
        case measure=>simp[intOf];omega
      ·have h0':decide (0<=Gl.script r)=false:=by simpa using h0
       have HN:=Lib.hid (zgn hno (by rw[HFO.out,h0'];rfl))
       go_wp2_with (go_at_call 211;refine(HC.out _ Z Z).mono ?_;rintro e w1 ⟨rfl,kK⟩)
       go_quiet ((go_at_call 212;exact Calls.quiet_of_same (KE _ _)))
       go_wp2_with fail
       go_roundw
       case rel=>exact⟨m+1,Z,Z,Go.below_drewN (Lm.trans (kK.mono Lm.size)) _,HN.out,Or.inl ⟨rfl,by go_num,tH (r8.below kK (cI _))⟩⟩
       case measure=>simp[intOf];omega
     ·have HF:=Lib.hid (KO hp hno Z acc hacc.out)
      by_cases Wi:m<=3
      ·have hps:s.size<pos+m:=Z
       clear hm
       go_wp2_with fail
       go_ret2
       exact⟨Lm,.slice none 0 0,by rw[HF.out];exact OI.nil _ _,by rw[HF.out];rfl⟩
      ·clear hm
       obtain rfl:m=4:=Z
       go_wp2_with fail
       go_ret2
       exact⟨Lm,.slice none 0 0,by rw[HF.out];exact OI.nil _ _,by rw[HF.out];rfl⟩
    ·have hz:((m:Int)==0)=false:=by simp;omega
     have Pu:=Lib.hid (KN hp hno hm1 Wi hfit acc hacc.out)
     have hle:pos+m<=s.size:=by have:=(Gl.nN.1 hfit).1;rw[RL]at this;have:=Lib.size_eq s;omega
     go_wp2_with fail
     all_goals
      go_roundw
      case rel=>exact⟨pos+m,acc++[Gl.value ((s.data.toList.drop pos).take m)],by go_num,hle,r8,Lm,Pu,by simp;omega⟩
      case measure=>simp[intOf];omega
  ·have HF:=Lib.hid (Jr hp acc hacc.out)
   go_wp2_with fail
   go_ret2
   exact⟨F6,_,by rw[HF.out];exact hown,by rw[HF.out];rfl⟩
end Go.Proofs.YtjibdelmjcenhaaGreatDoor
namespace Go.Proofs.YtjibdelmjcenhaaGreatDoor
namespace Gl
def st(r:Int):Bool:=script r != 0
def hb(r:Int):Bool:=script r==4
def base(l:List Int):Bool:=match l.find? st with|some r=>hb r|none=>false
end Gl
end Go.Proofs.YtjibdelmjcenhaaGreatDoor
namespace Go.Proofs.YtjibdelmjcenhaaGreatDoor
open Go.RowKit Go.Shelf
attribute [local go_sem] Oper.semAt_some
attribute [local go_sem] Oper.semAt_some
end Go.Proofs.YtjibdelmjcenhaaGreatDoor
namespace Go.Proofs.YtjibdelmjcenhaaGreatDoor
open Go.RowKit
theorem OI.PF{w:World}{B n:Nat}{v:Value}{xs:List Int}(h:OI w B v xs)(hn:xs.length=n):∃ A c,v=.slice A n c/\n<=c/\RI w A xs/\(A=none->c=0):=by
 subst hn;let⟨A,c,e,h1,h2,h3⟩:=h.form;refine⟨A,c,e,h1,h3,fun hA=>?_⟩;subst hA;rcases h.2 with⟨hv,_⟩|⟨g,cap,cur,hv,_⟩
 .grind
 grind
theorem Gl.sL(l:List UInt8):((Gl.decode l).getD []).length<=l.length:=by
 cases h:Gl.decode l with
 |none=>simp
 |some L =>
  obtain⟨_,rfl⟩:=(Gl.mO l L).1 h
  exact(Gl.Kb L).1
def P8(b:Bool):Int:=if b then 0 else 4
def rC.form{o:Option (List Int)}{w w':World}{e:Ending}(h:rC o w e w'):Below w.heap.size w w'/\∃ v,OI w' w.heap.size v (o.getD [])/\e=.returned (.tuple #[v,.int .i64 (P8 o.isSome)]):=h
variable {H:Type}
def zgo(x:H):P8 (some x:Option H).isSome=0:=rfl
def zgp:P8 (none:Option H).isSome=4:=rfl
end Go.Proofs.YtjibdelmjcenhaaGreatDoor
namespace Go.Proofs.YtjibdelmjcenhaaGreatDoor
namespace Nm
def Gq:Bool->List Int->Bool
 |_,[]=>false
 | p,x::t=>(p&&x==32)||Gq (x==32) t
def lW(L:List Int):Bool:=L.head?==some 32||L.getLast?==some 32||Gq false L
def common(L:List Int):Bool:=L.all fun r=>Gl.script r==0
def check(l:List UInt8):Int :=
 if l=[]then 14 else if 40<l.length then 3
 else match Gl.decode l with
  |none=>4
  | some L=>if lW L||common L then 14 else 0
def read(l:List UInt8):List Int:=if check l=0 then(Gl.decode l).getD []else[]
def qA:Bool->List UInt8->Bool
 |_,[]=>false
 | p,x::t=>(p&&x==32)||qA (x==32) t
theorem LK{l:List UInt8}(h:∀ x∈l,x≠32)(hne:l≠[])(p:Bool)(t:List UInt8):qA p (l++t)=qA false t:=by
 induction l generalizing p with
 |nil=>grind
 |cons x l ih =>
  simp[gu,qA,(show(x==32)=false by grind),nr,jg]
  cases l with
  |nil=>rfl
  |cons y l=>grind
theorem zgq:Gl.unit 32=[32]:=by decide
theorem Yk{k:Nat}(h:k%256≠32):UInt8.ofNat k≠32:=by intro e;have:=dL UInt8.toNat e;simp at this;omega
variable {r:Int}
theorem zaz(h:0<=Gl.script r)(hr:r≠32):(∀ x∈Gl.unit r,x≠32)/\Gl.unit r≠[]:=by
 have hb:=Gl.fm h;unfold Gl.unit;split
 .refine⟨fun x hx=>?_,M⟩;simp[MG]at hx;subst hx;exact Yk Z
 .split
  .refine⟨fun x hx=>?_,M⟩;simp only[eG,gm,gw]at hx;rcases hx with rfl|rfl
   .exact Yk Z
   .exact Yk Z
  .refine⟨fun x hx=>?_,M⟩;simp only[eG,gm,gw]at hx;rcases hx with rfl|rfl|rfl
   .exact Yk Z
   .exact Yk Z
   .exact Yk Z
theorem vv:∀(L:List Int)(p:Bool),Gl.valid L=true->qA p (Gl.units L)=Gq p L
 |[],p,_=>rfl
 |r::L,p,h=>by
  simp only[Gl.valid,oO,kE,pM]at h;have ih:=fun q=>vv L q h.2;simp only[Gl.units,eT]at ih ⊢;by_cases hr:r=32
  .subst hr;rw[zgq];simp[qA,Gq,ih]
  .have hu:=zaz h.1 hr;rw[LK hu.1 hu.2,ih];simp[Gq,(show(r==32)=false by grind)]
theorem Tl(x:UInt8)(l:List UInt8):[32,32].isPrefixOf (x::l)=(x==32&&(l.head?==some 32)):=by
 cases l with
 |nil=>grind
 |cons y l =>
  grind
theorem LJ(l:List UInt8):qA true l=((l.head?==some 32)||qA false l):=by
 cases l with
 |nil=>rfl
 |cons x l=>rfl
theorem uV:∀ l:List UInt8,0<=Lib.index l [32,32]↔qA false l=true
 |[]=>by decide
 |x::l=>by
  have ih:=uV l;have hge:=Lib.index_ge l [32,32];have e:Lib.index (x::l) [32,32]=if [32,32].isPrefixOf (x::l)then 0 else if Lib.index l [32,32]==-1 then -1 else Lib.index l [32,32]+1:=rfl
  have step:0<=(if Lib.index l [32,32]==-1 then -1 else Lib.index l [32,32]+1)↔qA false l=true:=by grind
  rw[e,(show qA false (x::l)=qA (x==32) l by rfl),Tl];by_cases hx:x=32
  .subst hx;rw[beq_self_eq_true,rF,LJ];grind
  grind
theorem AA(l:List UInt8):Lib.contains l [32,32]=qA false l:=by unfold Lib.contains;rw[Hh,pM];exact uV l
theorem Ke(h:0<=Gl.script r)(t:List UInt8):((Gl.unit r++t).head?==some 32)=(r==32):=by
 by_cases hr:r=32
 .subst hr;rfl
 .let⟨h1,h2⟩:=zaz h hr;rw[(show(r==32)=false by grind)];cases hu:Gl.unit r with
  |nil=>grind
  |cons x u =>
   grind
theorem Kc(h:0<=Gl.script r)(t:List UInt8):((t++Gl.unit r).getLast?==some 32)=(r==32):=by
 by_cases hr:r=32
 .subst hr;rw[zgq];simp
 .let⟨h1,h2⟩:=zaz h hr;rw[(show(r==32)=false by grind),List.getLast?_append];cases hg:(Gl.unit r).getLast? with
  |none=>simp_all
  |some x=>grind
theorem EZ{L:List Int}(h:Gl.valid L=true):((Gl.units L).head?==some 32)=(L.head?==some 32):=by
 cases L with
 |nil=>rfl
 |cons r L =>
  simp only[Gl.valid,oO,kE,pM]at h
  simp only[Gl.units,eT]
  rw[Ke h.1]
  simp
theorem EY{L:List Int}(h:Gl.valid L=true):((Gl.units L).getLast?==some 32)=(L.getLast?==some 32):=by
 rcases zmq L with rfl|⟨xgu,r,rfl⟩
 .rfl
 .rw[List.concat_eq_append]at h ⊢;rw[Gl.vZ]at h;simp only[Gl.valid,oO,MW,kE,pM]at h;rw[Gl.v7];have:Gl.units [r]=Gl.unit r:=by simp[Gl.units]
  rw[this,Kc h.2.1];simp
theorem AF{L:List Int}(h:Gl.valid L=true):lW L=((Gl.units L).head?==some 32||(Gl.units L).getLast?==some 32||Lib.contains (Gl.units L) [32,32]):=by rw[AA,vv L false h,EZ h,EY h];rfl
end Nm
end Go.Proofs.YtjibdelmjcenhaaGreatDoor
namespace Go.Proofs.YtjibdelmjcenhaaGreatDoor
open Go.RowKit
def nV(w:World):Prop:=∃ m,w.cell? ⟨1,0,none⟩=some (.int .i64 m)
theorem nV.lt{w:World}(h:nV w):1<w.heap.size:=by let⟨m,h⟩:=h;simp only[World.cell?]at h;grind
variable {w':World}
theorem nV.below{w:World}{B:Nat}(h:nV w)(hb:Below B w w')(hB:w.heap.size<=B):nV w':=by have hl:=h.lt;let⟨m,h⟩:=h;exact⟨m,(hb.cell (p:=⟨1,0,none⟩) (by grind)).trans h⟩
theorem zgr(s:ByteArray):s.toList=s.data.toList:=by simp[zm4]
theorem Jy(b:UInt8):((b.toNat:Int)==32)=(some b==some 32):=by
 rw[Hh];simp;constructor
 .intro h;exact UInt8.toNat_inj.1 (by grind)
 simp_all
theorem GC(s:ByteArray)(h:0<s.size):(((s[0]'h).toNat:Int)==32)=(s.data.toList.head?==some 32):=by
 have e:s.data.toList.head?=some s[0]:=by rw[List.head?_eq_getElem?];rw[dw h];rfl
 rw[e,Jy]
theorem L7(s:ByteArray)(h:0<s.size):(((s[s.size-1]'Z).toNat:Int)==32)=(s.data.toList.getLast?==some 32):=by
 have e:s.data.toList.getLast?=some (s[s.size-1]'Z):=by rw[zl8];rw[show s.data.toList.length-1=s.size-1 from rfl,dw (by show s.size-1<s.size;omega)];rfl
 rw[e,Jy]
def kN(L:List Int)(er:Int)(w:World)(e:Ending)(w':World):Prop :=
 Below w.heap.size w w'/\∃ v,OI w' w.heap.size v L/\e=.returned (.tuple #[v,.int .i64 er])
theorem kN.err{L:List Int}{er er':Int}{w:World}(hb:Below w.heap.size w w')(h1:L=[])(h2:er=er'):kN L er w (.returned (.tuple #[.slice none 0 0,.int .i64 er'])) w':=by subst h1;subst h2;exact⟨hb,_,OI.nil _ _,rfl⟩
variable {l:List UInt8}
def Nm.sP(h:40<l.length):Nm.check l=3:=xfy
def Nm.sO(h1:l≠[])(h2:l.length<=40)(h:Gl.decode l=none):Nm.check l=4:=xfy
def Nm.sM{L:List Int}(h1:l≠[])(h2:l.length<=40)(h:Gl.decode l=some L):Nm.check l=if Nm.lW L||Nm.common L then 14 else 0:=xfy
theorem Nm.jS(h:Nm.check l≠0):Nm.read l=[]:=by unfold Nm.read;grind
def zgs(s:ByteArray)(m:Int)(w:World)(hs:s.size<4294967281)(hm:w.cell? ⟨1,0,none⟩=some (.int .i64 m)) :
  Calls Tryz.prog 158 #[.string s,.string ⟨#[32,32]⟩] w fun e w'=>e=.returned (.bool (Lib.contains s.data.toList [32,32]))/\w=w' :=
 (Tryz.strings_Contains s _ m w hs hm).mono fun _ _ h=>⟨h.1,h.2.symm⟩
set_option maxHeartbeats 4000000 in
theorem NY(s:ByteArray)(w:World)(ht:Gl.Tab w)(hm:nV w)(hs:s.size<=1000000000000) :
  Calls Tryz.prog 113 #[.string s] w (kN (Nm.read s.data.toList) (Nm.check s.data.toList) w):=by
 go_enter func113,ntmps113
 by_cases h0:s=⟨#[]⟩
 ·subst h0
  go_wp2_with fail
  go_ret2
  exact⟨Below.refl _ _,_,OI.nil _ _,rfl⟩
 have T5:s.data.toList≠[]:=fun e=>h0 (by cases s with|mk d=>simp at e;subst e;rfl)
 have h0s:s.size≠0:=fun e=>T5 (uc.1 e)
 have h0b:s.toList.isEmpty=false:=by rw[zgr];simpa using T5
 by_cases hl:40<s.size
 ·go_wp2_with fail
  go_ret2
  have e:Nm.check s.data.toList=3:=Nm.sP (by simpa using hl)
  exact kN.err (Below.refl _ _) (Nm.jS (by rw[e];decide)) e
 go_wp2_with (go_at_call 157;refine(Dj _ _ ht Z).mono ?_)
 intro e w1 hp1
 obtain⟨kK,v1,EL,rfl⟩:=hp1.form
 have ht1:=ht.below kK (cI _)
 have hm1:=hm.below kK (cI _)
 have iN:s.data.toList.length<=40:=by show s.size<=40;omega
 obtain⟨o1,e1⟩:∃ o,Gl.decode s.data.toList=o:=⟨_,rfl⟩
 have E1:=Lib.hid e1
 rw[e1]at EL
 rw[e1]
 clear e1 hp1
 cases o1 with
 |none =>
  rw[zgp]
  have qS:=Nm.sO T5 iN E1.out
  go_wp2_with fail
  go_ret2
  exact kN.err kK (Nm.jS (by rw[qS];decide)) qS
 |some L =>
 rw[zgo]
 replace EL:OI w1 w.heap.size v1 L:=EL
 obtain⟨nL,hnL⟩:∃ n,L.length=n:=⟨_,rfl⟩
 obtain⟨A1,c1,rfl,_,pY,_⟩:=EL.PF hnL
 have qS:=Nm.sM T5 iN E1.out
 obtain⟨hv,hu⟩:=(Gl.mO _ _).1 E1.out
 have th:=Nm.AF hv
 rw[←hu]at th
 clear hu
 obtain⟨m,Wg⟩:=hm1
 have hsz:s.size<4294967281:=Z
 have hp0:0<s.size:=Z
 have ae1:nL<=40:=by rw[←hnL];have:=Gl.sL s.data.toList;rw[E1.out]at this;exact iQ this iN
 have f0:(((s[0]'hp0).toNat:Int)==32)=(s.data.toList.head?==some 32):=GC s hp0
 have f1:(((s[s.size-1]'Z).toNat:Int)==32)=(s.data.toList.getLast?==some 32):=L7 s hp0
 rcases Xf (s.data.toList.head?==some 32)with g0|g0
 ·have f0':=f0.trans g0
  have hB:Nm.check s.data.toList=14:=by rw[qS,th,g0];rfl
  clear f0 f1 qS th
  go_wp2_with fail
  go_ret2
  exact kN.err kK (Nm.jS (by rw[hB];decide)) hB
 have f0':=f0.trans g0
 rcases Xf (s.data.toList.getLast?==some 32)with g1|g1
 ·have f1':=f1.trans g1
  have hB:Nm.check s.data.toList=14:=by rw[qS,th,g0,g1];rfl
  clear f0 f1 qS th
  go_wp2_with fail
  go_ret2
  exact kN.err kK (Nm.jS (by rw[hB];decide)) hB
 have f1':=f1.trans g1
 clear f0 f1
 rcases Xf (Lib.contains s.data.toList [32,32])with g2|g2
 ·have hB:Nm.check s.data.toList=14:=by rw[qS,th,g0,g1,g2];rfl
  clear qS th
  go_wp2_with (go_at_call 158;refine(zgs s m _ hsz Wg).mono ?_;first|rintro e w' rfl rfl|rintro e w' ⟨rfl,rfl⟩)
  go_ret2
  exact kN.err kK (Nm.jS (by rw[hB];decide)) hB
 have Da:Nm.check s.data.toList=if Nm.common L then 14 else 0:=by rw[qS,th,g0,g1,g2];rfl
 have HCK:=Lib.hid Da
 clear qS th Da
 go_wp2_with (go_at_call 158;refine(zgs s m _ hsz Wg).mono ?_;first|rintro e w' rfl rfl|rintro e w' ⟨rfl,rfl⟩)
 go_loopw [2,5,36] (fun lv rv iv wr=>∃ i:Nat,lv=.slice A1 nL c1/\iv=.int .i64 i/\i<=nL/\Hid (∀ k,k<i->Gl.script (gi L k)=0)/\Below w1.heap.size w1 wr) (fun _ _ iv _=>nL-(intOf iv).toNat)
 case atStart=>exact⟨0,rfl,rfl,Z,fun k hk=>absurd hk Z,Below.refl _ _⟩
 case round =>
  obtain⟨i,rfl,rfl,hi,hall,F6⟩:=hrel
  by_cases au:i<nL
  ·obtain⟨b1,o1,rfl,ade,hc1⟩:=pY i Z
   have c1:=(F6.cell (p:=⟨b1,o1+i,none⟩) ade).trans (hc1 i Z)
   clear hc1
   have htr:=ht1.below F6 (cI _)
   have hbr:Below w.heap.size w wr:=kK.trans (F6.mono kK.size)
   by_cases hsc:Gl.script (gi L i)=0
   ·have hsb:(Gl.script (gi L i) != 0)=false:=by simp[hsc]
    have HS:=Lib.hid hsc
    clear hsc
    go_wp2_with (go_at_call 159;refine(ZX _ _ htr).mono ?_;first|rintro e w2 rfl fE|rintro e w2 ⟨rfl,fE⟩)
    go_roundw
    case rel=>exact⟨i+1,rfl,by go_num,Z,fun k hk=>(zlo (zly hk)).elim (hall.out k) (fun e=>by rw[e];exact HS.out),F6.trans (fE.mono F6.size)⟩
    case measure=>simp[intOf];omega
   ·have hsb:(Gl.script (gi L i) != 0)=true:=by simp[hsc]
    have o8:Nm.common L=false:=by unfold Nm.common;rw[zmk];have hlt':i<L.length:=Z;refine⟨L[i],gQ hlt',?_⟩;rw[←Xk hlt'];simpa using hsc
    have hK:Nm.check s.data.toList=0:=by rw[HCK.out,o8];rfl
    have hRd:Nm.read s.data.toList=L:=by unfold Nm.read;rw[bU hK,E1.out];rfl
    have HK:=Lib.hid hK
    have HR:=Lib.hid hRd
    clear hK hRd o8
    go_wp2_with (go_at_call 159;refine(ZX _ _ htr).mono ?_;first|rintro e w2 rfl fE|rintro e w2 ⟨rfl,fE⟩)
    go_ret2
    exact⟨hbr.trans (fE.mono hbr.size),_,by rw[HR.out];exact EL.below (F6.trans (fE.mono F6.size)) (cI _),by rw[HK.out];rfl⟩
  ·have o8:Nm.common L=true:=by unfold Nm.common;rw[nu];intro x hx;obtain⟨k,hk,rfl⟩:=RO.1 hx;have:=hall.out k Z;rw[Xk hk]at this;simpa using this
   have hK:Nm.check s.data.toList=14:=by rw[HCK.out,o8];rfl
   go_wp2_with fail
   go_ret2
   exact kN.err (kK.trans (F6.mono kK.size)) (Nm.jS (by rw[hK];decide)) hK
theorem FG(s:ByteArray)(w:World)(ht:Gl.Tab w)(hm:nV w)(hs:s.size<=1000000000000) :
  Calls Tryz.prog 53 #[.string s] w fun e w'=>e=.returned (.int .i64 (Nm.check s.data.toList))/\Below w.heap.size w w':=by
 go_enter func53,ntmps53
 go_wp2_with (go_at_call 113;refine(NY _ _ ht hm hs).mono ?_)
 rintro e w1 ⟨kK,v1,EL,rfl⟩
 go_wp2_with fail
 go_ret
 simp[*]
set_option maxHeartbeats 2000000 in
theorem zdk(A:Option Addr)(c n:Nat)(L:List Int)(w:World)(hn:L.length=n)(hA:RI w A L)(hx:n<=1000000000000000) :
  Calls Tryz.prog 179 #[.slice A n c] w fun e w'=>e=.returned (.bool (Nm.common L))/\w=w':=by
 subst hn
 go_enter func179,ntmps179
 go_wp2_with fail
 go_loopw [3] (fun iv wr=>∃ i:Nat,iv=.int .i64 i/\i<=L.length/\Hid (∀ k,k<i->Gl.script (gi L k)=0)/\w=wr) (fun iv _=>L.length-(intOf iv).toNat)
 case atStart=>exact⟨0,rfl,Z,fun k hk=>absurd hk Z,rfl⟩
 case round =>
  obtain⟨i,rfl,hi,hall,rfl⟩:=hrel
  by_cases au:i<L.length
  ·obtain⟨b1,o1,rfl,ade,hc1⟩:=hA i au
   have c1:=hc1 i au
   clear hc1 hA
   by_cases hsc:Gl.script (gi L i)=0
   ·have hsb:(Gl.script (gi L i) != 0)=false:=by simp[hsc]
    have HS:=Lib.hid hsc
    clear hsc
    go_wp2_with (go_at_call 212;refine(Zj _ _).mono ?_;first|rintro e w2 rfl rfl|rintro e w2 ⟨rfl,rfl⟩)
    go_roundw
    case rel=>exact⟨i+1,by go_num,Z,fun k hk=>(zlo (zly hk)).elim (hall.out k) (fun e=>by rw[e];exact HS.out),trivial⟩
    case measure=>simp[intOf];omega
   ·have hsb:(Gl.script (gi L i) != 0)=true:=by simp[hsc]
    have o8:Nm.common L=false:=by unfold Nm.common;rw[zmk];refine⟨L[i],gQ au,?_⟩;rw[←Xk au];simpa using hsc
    have HC:=Lib.hid o8
    clear o8
    go_wp2_with (go_at_call 212;refine(Zj _ _).mono ?_;first|rintro e w2 rfl rfl|rintro e w2 ⟨rfl,rfl⟩)
    go_ret
    exact⟨Z0 HC.out.symm,rfl⟩
  ·have o8:Nm.common L=true:=by unfold Nm.common;rw[nu];intro x hx;obtain⟨k,hk,rfl⟩:=RO.1 hx;have:=hall.out k Z;rw[Xk hk]at this;simpa using this
   have HC:=Lib.hid o8
   clear o8
   go_wp2_with fail
   go_ret
   exact⟨Z0 HC.out.symm,rfl⟩
theorem Qt{L:List Int}{k:Nat}(h:k+1<L.length)(h1:gi L k=32)(h2:gi L (k+1)=32):∀ p,Nm.Gq p L=true:=by
 induction k generalizing L with
 |zero =>
  intro p
  match L,h with
  |x::y::t,_ =>
   have e1:x=32:=h1
   have e2:y=32:=h2
   simp[Nm.Gq,e1,e2]
 |succ k ih =>
  intro p
  match L,h with
  |x::t,h =>
   have:=ih (L:=t) (by grind) h1 h2 (x==32)
   simp[Nm.Gq,this]
theorem DN:∀{L:List Int}(p:Bool),(p=true->gi L 0≠32∨L=[])->(∀ k,k+1<L.length->¬ (gi L (k+1)=32/\gi L k=32))->Nm.Gq p L=false
 |[],p,_,_=>rfl
 |x::t,p,hp,h=>by
  have h1:(p&&x==32)=false:=by
   cases p with
   |false=>rfl
   |true=>simpa using(hp rfl).elim (fun h:x≠32=>h) (fun h=>by grind)
  have h2:Nm.Gq (x==32) t=false:=by
   refine DN _ (fun e=>?_) (fun k hk hh=>h (k+1) (by grind) hh);cases t with
   |nil=>simp
   |cons y t =>
    refine Or.inl (fun hy=>h 0 M ⟨hy,?_⟩)
    show x=32
    grind
  simp[Nm.Gq,h1,h2]
theorem AG{L:List Int}(h:0<L.length):Nm.lW L=((gi L 0==32)||(gi L (L.length-1)==32)||Nm.Gq false L):=by
 have e1:(L.head?==some 32)=(gi L 0==32):=by rw[List.head?_eq_getElem?,dw h,Xk h];rfl
 have e2:(L.getLast?==some 32)=(gi L (L.length-1)==32):=by rw[zl8,dw Z,Xk Z];rfl
 unfold Nm.lW;grind
set_option maxHeartbeats 4000000 in
theorem YZ(A:Option Addr)(c n:Nat)(L:List Int)(w:World)(hn:L.length=n)(hA:RI w A L)(h0:0<n)(hx:n<=1000000000000000) :
  Calls Tryz.prog 178 #[.slice A n c] w fun e w'=>e=.returned (.bool (Nm.lW L))/\w=w':=by
 subst hn
 have HB:=Lib.hid (AG h0)
 obtain⟨b1,o1,rfl,ade,hc1⟩:=hA 0 h0
 have c0:w.cell? ⟨b1,o1,none⟩=some (.int .i64 (gi L 0)):=hc1 0 h0
 have cl:=hc1 (L.length-1) Z
 have HC:=Lib.hid hc1
 clear hc1 hA
 go_enter func178,ntmps178
 by_cases hz:gi L 0=32
 ·have hzb:(gi L 0==32)=true:=by simp[hz]
  have HE:Hid (Nm.lW L=true):=Lib.hid (by rw[HB.out,hzb];rfl)
  clear hz
  go_wp2_with fail
  go_ret
  exact⟨Z0 HE.out.symm,rfl⟩
 have hzb:(gi L 0==32)=false:=by simp[hz]
 by_cases hy:gi L (L.length-1)=32
 ·have hyb:(gi L (L.length-1)==32)=true:=by simp[hy]
  have HE:Hid (Nm.lW L=true):=Lib.hid (by rw[HB.out,hzb,hyb];rfl)
  clear hz hy
  go_wp2_with fail
  go_ret
  exact⟨Z0 HE.out.symm,rfl⟩
 have hyb:(gi L (L.length-1)==32)=false:=by simp[hy]
 have HD:Hid (Nm.lW L=Nm.Gq false L):=Lib.hid (by rw[HB.out,hzb,hyb];rfl)
 clear hz hy HB
 go_wp2_with fail
 go_loopw [3] (fun iv wr=>∃ i:Nat,iv=.int .i64 (i+1:Nat)/\i+1<=L.length/\Hid (∀ k,k<i->¬ (gi L (k+1)=32/\gi L k=32))/\w=wr) (fun iv _=>L.length-(intOf iv).toNat)
 case atStart=>exact⟨0,rfl,Z,fun k hk=>absurd hk Z,rfl⟩
 case round =>
  obtain⟨i,rfl,hi,hall,rfl⟩:=hrel
  have ei:((i+1:Nat):Int)=(i:Int)+1:=Z
  rw[ei]
  clear ei
  by_cases au:i+1<L.length
  ·have c1:=HC.out (i+1) au
   have c2:=HC.out i Z
   by_cases h1:gi L (i+1)=32
   ·have h1b:(gi L (i+1)==32)=true:=by simp[h1]
    by_cases h2:gi L i=32
    ·have h2b:(gi L i==32)=true:=by simp[h2]
     have HE:Hid (Nm.Gq false L=true):=Lib.hid (Qt au h2 h1 false)
     clear h1 h2
     go_wp2_with fail
     go_ret
     exact⟨Z0 (by rw[HD.out,HE.out]),rfl⟩
    ·have h2b:(gi L i==32)=false:=by simp[h2]
     have HN:=Lib.hid h2
     clear h1 h2
     go_wp2_with fail
     go_roundw
     case rel=>exact⟨i+1,by go_num,Z,fun k hk=>(zlo (zly hk)).elim (hall.out k) (fun e=>by rw[e];exact fun h=>HN.out h.2),trivial⟩
     case measure=>simp[intOf];omega
   ·have h1b:(gi L (i+1)==32)=false:=by simp[h1]
    have HN:=Lib.hid h1
    clear h1
    go_wp2_with fail
    go_roundw
    case rel=>exact⟨i+1,by go_num,Z,fun k hk=>(zlo (zly hk)).elim (hall.out k) (fun e=>by rw[e];exact fun h=>HN.out h.1),trivial⟩
    case measure=>simp[intOf];omega
  ·have HE:Hid (Nm.Gq false L=false):=Lib.hid (DN false (fun h=>by cases h) (fun k hk=>hall.out k Z))
   go_wp2_with fail
   go_ret
   exact⟨Z0 (by rw[HD.out,HE.out]),rfl⟩
theorem Nm.aav{L:List Int}(h:Gl.decode l=some L)(h0:l≠[]):0<L.length:=by
 obtain⟨_,hu⟩:=(Gl.mO l L).1 h;cases L with
 |nil=>exact absurd hu (by simpa[Gl.units]using h0)
 |cons x t=>simp
set_option maxHeartbeats 4000000 in
theorem Fx(s:ByteArray)(w:World)(hs:s.size<=1000000000000) :
  Calls Tryz.prog 144 #[.string s] w fun e w'=>e=.returned (.int .i64 (Nm.check s.data.toList))/\Below w.heap.size w w':=by
 go_enter func144,ntmps144
 by_cases h0:s=⟨#[]⟩
 .subst h0
  go_wp2_with fail
  go_ret
  exact⟨rfl,Below.refl _ _⟩
 have T5:s.data.toList≠[]:=fun e=>h0 xfs
 have h0b:s.toList.isEmpty=false:=by rw[zgr];simpa using T5
 by_cases hl:40<s.size
 .go_wp2_with fail
  go_ret
  exact⟨yF (Nm.sP (by simpa using hl)).symm,Below.refl _ _⟩
 go_wp2_with (go_at_call 177;refine(B4 _ _ Z).mono ?_)
 intro e w1 hp1
 obtain⟨kK,v1,EL,rfl⟩:=hp1.form
 have iN:s.data.toList.length<=40:=by show s.size<=40;omega
 obtain⟨o1,e1⟩:∃ o,Gl.decode s.data.toList=o:=⟨_,rfl⟩
 have E1:=Lib.hid e1
 rw[e1]at EL
 rw[e1]
 clear e1 hp1
 cases o1 with
 |none =>
  rw[zgp]
  have qS:=Nm.sO T5 iN E1.out
  go_wp2_with fail
  go_ret
  exact⟨yF qS.symm,kK⟩
 |some L =>
 rw[zgo]
 replace EL:OI w1 w.heap.size v1 L:=EL
 have ae1:L.length<=40:=xe7
 have hpos:=Nm.aav E1.out T5
 have qS:=Nm.sM T5 iN E1.out
 obtain⟨nL,hnL⟩:∃ n,L.length=n:=⟨_,rfl⟩
 rw[hnL]at ae1 hpos
 obtain⟨A1,c1,rfl,_,pY,_⟩:=EL.PF hnL
 have hne:((nL:Int)==0)=false:=by simp;omega
 have HN:=Lib.hid hnL
 clear hnL
 rcases Xf (Nm.lW L)with g|g
 .have Da:Nm.check s.data.toList=14:=by rw[qS,g];rfl
  clear qS
  go_wp2_with (go_at_call 178;refine(YZ _ _ nL L _ HN.out pY Z Z).mono ?_;first|rintro e w' rfl rfl|rintro e w' ⟨rfl,rfl⟩)
  go_ret
  exact⟨yF Da.symm,kK⟩
 rcases Xf (Nm.common L)with g2|g2
 .have Da:Nm.check s.data.toList=14:=by rw[qS,g,g2];rfl
  exact xar
 have Da:Nm.check s.data.toList=0:=by rw[qS,g,g2];rfl
 exact xar
end Go.Proofs.YtjibdelmjcenhaaGreatDoor
namespace Go.Proofs
open Go.Shelf
def Tryz.ur:Go.Shelf.Ren:=⟨fun|6=>231|15=>183|14=>266|28=>222|29=>223|20=>285|21=>286|22=>287|23=>288|24=>289|25=>290|26=>291|27=>292|46=>306|47=>248|48=>249|49=>307|50=>308|57=>313|n=>n,fun|22=>24|24=>3|25=>258|3=>3|39=>190|0=>0|53=>251|55=>253|4=>4|46=>245|45=>244|50=>153|5=>5|9=>9|66=>265|70=>269|76=>295|77=>296|n=>n,fun|n=>n⟩
theorem Tryz.abn:Go.Proofs.SlLaysF.n6 Tryz.prog Tryz.ur:={
 mixed:=by kernel_rfl
 f6:=⟨Tryz.f231.name,Δ,Tryz.func231.trans ay⟩
 f14:=⟨Tryz.f266.name,Δ,Tryz.func266.trans ay⟩
 f15:=Tryz.func183.trans ay
 f20:=⟨Tryz.f285.name,Δ,Tryz.func285.trans ay⟩
 f21:=⟨Tryz.f286.name,Δ,Tryz.func286.trans ay⟩
 f22:=⟨Tryz.f287.name,Δ,Tryz.func287.trans ay⟩
 f23:=⟨Tryz.f288.name,Δ,Tryz.func288.trans ay⟩
 f24:=⟨Tryz.f289.name,Δ,Tryz.func289.trans ay⟩
 f25:=⟨Tryz.f290.name,Δ,Tryz.func290.trans ay⟩
 f26:=⟨Tryz.f291.name,Δ,Tryz.func291.trans ay⟩
 f27:=⟨Tryz.f292.name,Δ,Tryz.func292.trans ay⟩
 f28:=Tryz.func222.trans ay
 f29:=Tryz.func223.trans ay
 f46:=⟨Tryz.f306.name,Δ,Tryz.func306.trans ay⟩
 f47:=Tryz.func248.trans ay
 f48:=Tryz.func249.trans ay
 f49:=⟨Tryz.f307.name,Δ,Tryz.func307.trans ay⟩
 f50:=⟨Tryz.f308.name,Δ,Tryz.func308.trans ay⟩
 f57:=⟨Tryz.f313.name,Δ,Tryz.func313.trans ay⟩
 t0:=underlying0
 a0:=isAgg0
 z0:=sizeOf0
 v0:=zeroValue0
 t3:=underlying3
 a3:=isAgg3
 z3:=sizeOf3
 v3:=zeroValue3
 t4:=underlying4
 a4:=isAgg4
 z4:=sizeOf4
 v4:=zeroValue4
 t5:=underlying5
 a5:=isAgg5
 z5:=sizeOf5
 v5:=zeroValue5
 t9:=underlying9
 a9:=isAgg9
 z9:=sizeOf9
 v9:=zeroValue9
 t22:=underlying24
 a22:=isAgg24
 z22:=sizeOf24
 v22:=zeroValue24
 a24:=isAgg3
 z24:=sizeOf3
 t25:=underlying258
 a25:=isAgg258
 z25:=sizeOf258
 v25:=zeroValue258
 t39:=underlying190
 a39:=isAgg190
 z39:=sizeOf190
 v39:=zeroValue190
 t45:=underlying244
 a45:=isAgg244
 z45:=sizeOf244
 v45:=zeroValue244
 t46:=underlying245
 a46:=isAgg245
 z46:=sizeOf245
 v46:=zeroValue245
 t50:=underlying153
 a50:=isAgg153
 z50:=sizeOf153
 v50:=zeroValue153
 t53:=underlying251
 a53:=isAgg251
 z53:=sizeOf251
 v53:=zeroValue251
 t55:=underlying253
 a55:=isAgg253
 z55:=sizeOf253
 v55:=zeroValue253
 t66:=underlying265
 a66:=isAgg265
 z66:=sizeOf265
 v66:=zeroValue265
 t70:=underlying269
 a70:=isAgg269
 z70:=sizeOf269
 v70:=zeroValue269
 t76:=underlying295
 a76:=isAgg295
 z76:=sizeOf295
 v76:=zeroValue295
 t77:=underlying296
 a77:=isAgg296
 z77:=sizeOf296
 v77:=zeroValue296 }
def Tryz.uq:Go.Shelf.Ren:=⟨fun|6=>256|15=>183|14=>283|28=>222|29=>223|20=>297|21=>298|22=>299|23=>300|24=>301|25=>302|26=>303|27=>304|46=>309|47=>248|48=>249|49=>310|50=>311|57=>314|n=>n,fun|22=>272|24=>278|25=>280|3=>3|39=>190|0=>0|53=>251|55=>253|4=>4|46=>245|45=>244|50=>153|5=>5|9=>9|66=>265|70=>269|76=>295|77=>296|n=>n,fun|n=>n⟩
theorem Tryz.abm:Go.Proofs.SlLaysF0.n6 Tryz.prog Tryz.uq:={
 mixed:=by kernel_rfl
 f6:=⟨Tryz.f256.name,Δ,Tryz.func256.trans ay⟩
 f14:=⟨Tryz.f283.name,Δ,Tryz.func283.trans ay⟩
 f15:=Tryz.func183.trans ay
 f20:=⟨Tryz.f297.name,Δ,Tryz.func297.trans ay⟩
 f21:=⟨Tryz.f298.name,Δ,Tryz.func298.trans ay⟩
 f22:=⟨Tryz.f299.name,Δ,Tryz.func299.trans ay⟩
 f23:=⟨Tryz.f300.name,Δ,Tryz.func300.trans ay⟩
 f24:=⟨Tryz.f301.name,Δ,Tryz.func301.trans ay⟩
 f25:=⟨Tryz.f302.name,Δ,Tryz.func302.trans ay⟩
 f26:=⟨Tryz.f303.name,Δ,Tryz.func303.trans ay⟩
 f27:=⟨Tryz.f304.name,Δ,Tryz.func304.trans ay⟩
 f28:=Tryz.func222.trans ay
 f29:=Tryz.func223.trans ay
 f46:=⟨Tryz.f309.name,Δ,Tryz.func309.trans ay⟩
 f47:=Tryz.func248.trans ay
 f48:=Tryz.func249.trans ay
 f49:=⟨Tryz.f310.name,Δ,Tryz.func310.trans ay⟩
 f50:=⟨Tryz.f311.name,Δ,Tryz.func311.trans ay⟩
 f57:=⟨Tryz.f314.name,Δ,Tryz.func314.trans ay⟩
 t0:=underlying0
 a0:=isAgg0
 z0:=sizeOf0
 v0:=zeroValue0
 t3:=underlying3
 a3:=isAgg3
 z3:=sizeOf3
 v3:=zeroValue3
 t4:=underlying4
 a4:=isAgg4
 z4:=sizeOf4
 v4:=zeroValue4
 t5:=underlying5
 a5:=isAgg5
 z5:=sizeOf5
 v5:=zeroValue5
 t9:=underlying9
 a9:=isAgg9
 z9:=sizeOf9
 v9:=zeroValue9
 t22:=underlying272
 a22:=isAgg272
 z22:=sizeOf272
 v22:=zeroValue272
 t25:=underlying280
 a25:=isAgg280
 z25:=sizeOf280
 v25:=zeroValue280
 t39:=underlying190
 a39:=isAgg190
 z39:=sizeOf190
 v39:=zeroValue190
 t45:=underlying244
 a45:=isAgg244
 z45:=sizeOf244
 v45:=zeroValue244
 t46:=underlying245
 a46:=isAgg245
 z46:=sizeOf245
 v46:=zeroValue245
 t50:=underlying153
 a50:=isAgg153
 z50:=sizeOf153
 v50:=zeroValue153
 t53:=underlying251
 a53:=isAgg251
 z53:=sizeOf251
 v53:=zeroValue251
 t55:=underlying253
 a55:=isAgg253
 z55:=sizeOf253
 v55:=zeroValue253
 t66:=underlying265
 a66:=isAgg265
 z66:=sizeOf265
 v66:=zeroValue265
 t70:=underlying269
 a70:=isAgg269
 z70:=sizeOf269
 v70:=zeroValue269
 t76:=underlying295
 a76:=isAgg295
 z76:=sizeOf295
 v76:=zeroValue295
 t77:=underlying296
 a77:=isAgg296
 z77:=sizeOf296
 v77:=zeroValue296 }
def Tryz.uu:Go.Shelf.Ren:=⟨fun|189=>149|125=>183|257=>182|128=>222|129=>223|294=>214|295=>215|296=>216|297=>217|298=>218|299=>219|216=>151|300=>220|301=>221|328=>247|329=>248|330=>249|331=>250|332=>251|215=>184|343=>281|n=>n,fun|28=>24|3=>3|46=>190|0=>0|51=>251|53=>253|4=>4|183=>245|182=>244|131=>153|5=>5|9=>9|218=>265|222=>269|228=>295|229=>296|n=>n,fun|n=>n⟩
theorem Tryz.abo:Go.Proofs.Lays.n189 Tryz.prog Tryz.uu:={
 mixed:=by kernel_rfl
 f125:=Tryz.func183.trans ay
 f128:=Tryz.func222.trans ay
 f129:=Tryz.func223.trans ay
 f189:=Tryz.func149.trans ay
 f215:=Tryz.func184.trans ay
 f216:=Tryz.func151.trans ay
 f257:=Tryz.func182.trans ay
 f294:=Tryz.func214.trans ay
 f295:=Tryz.func215.trans ay
 f296:=Tryz.func216.trans ay
 f297:=Tryz.func217.trans ay
 f298:=Tryz.func218.trans ay
 f299:=Tryz.func219.trans ay
 f300:=Tryz.func220.trans ay
 f301:=Tryz.func221.trans ay
 f328:=Tryz.func247.trans ay
 f329:=Tryz.func248.trans ay
 f330:=Tryz.func249.trans ay
 f331:=Tryz.func250.trans ay
 f332:=Tryz.func251.trans ay
 f343:=Tryz.func281.trans ay
 t0:=underlying0
 a0:=isAgg0
 z0:=sizeOf0
 v0:=zeroValue0
 t3:=underlying3
 a3:=isAgg3
 z3:=sizeOf3
 v3:=zeroValue3
 t4:=underlying4
 a4:=isAgg4
 z4:=sizeOf4
 v4:=zeroValue4
 t5:=underlying5
 a5:=isAgg5
 z5:=sizeOf5
 v5:=zeroValue5
 t9:=underlying9
 a9:=isAgg9
 z9:=sizeOf9
 v9:=zeroValue9
 t28:=underlying24
 a28:=isAgg24
 z28:=sizeOf24
 v28:=zeroValue24
 t46:=underlying190
 a46:=isAgg190
 z46:=sizeOf190
 v46:=zeroValue190
 t51:=underlying251
 a51:=isAgg251
 z51:=sizeOf251
 v51:=zeroValue251
 t53:=underlying253
 a53:=isAgg253
 z53:=sizeOf253
 v53:=zeroValue253
 t131:=underlying153
 a131:=isAgg153
 z131:=sizeOf153
 v131:=zeroValue153
 t182:=underlying244
 a182:=isAgg244
 z182:=sizeOf244
 v182:=zeroValue244
 t183:=underlying245
 a183:=isAgg245
 z183:=sizeOf245
 v183:=zeroValue245
 t218:=underlying265
 a218:=isAgg265
 z218:=sizeOf265
 v218:=zeroValue265
 t222:=underlying269
 a222:=isAgg269
 z222:=sizeOf269
 v222:=zeroValue269
 t228:=underlying295
 a228:=isAgg295
 z228:=sizeOf295
 v228:=zeroValue295
 t229:=underlying296
 a229:=isAgg296
 z229:=sizeOf296
 v229:=zeroValue296 }
end Go.Proofs
namespace Go.Proofs.YtjibdelmjcenhaaGreatDoor
open Go
def LY(P:Program)(l:List (FuncId×gP)):List (Option gP):=List.rec (motive:=fun _=>List (Option gP)) [] (fun p _ r=>(bif Nat.blt (p.2.mode%7) 4 then(P.funcs[p.1]?).bind fun fn=>cFn P fn p.2.mode else some p.2)::r) l
theorem zb0{P:Program}:∀{l:List (FuncId×gP)},LY P l=l.map (fun p=>some p.2)->∀ p∈l,Nat.blt (p.2.mode%7) 4=true->∃ fn,P.funcs[p.1]?=some fn/\cFn P fn p.2.mode=some p.2
 |[],_,p,h=>by cases h
 |q::l,h,p,hp=>fun h4=>by
  have h:(bif Nat.blt (q.2.mode%7) 4 then(P.funcs[q.1]?).bind fun fn=>cFn P fn q.2.mode else some q.2)::LY P l=some q.2::l.map (fun p=>some p.2):=h
  simp only[List.cons.injEq]at h;rcases eG.1 hp with rfl|hp
  .rw[h4]at h;cases hf:P.funcs[p.1]? with
   |none=>rw[hf]at h;cases h.1
   |some fn=>rw[hf]at h;exact⟨fn,rfl,h.1⟩
  .exact zb0 h.2 p hp h4
theorem tc0:LY Tryz.prog tab0.all=tab0.all.map (fun p=>some p.2):=by kernel_rfl
theorem tc1:LY Tryz.prog tab1.all=tab1.all.map (fun p=>some p.2):=by kernel_rfl
theorem tc2:LY Tryz.prog tab2.all=tab2.all.map (fun p=>some p.2):=by kernel_rfl
theorem tc3:LY Tryz.prog tab3.all=tab3.all.map (fun p=>some p.2):=by kernel_rfl
theorem SD:SE.all.all (fun p=>Nat.blt (p.2.mode%7) 4||Nat.beq p.1 149||Nat.beq p.1 231||Nat.beq p.1 256)=true:=by kernel_rfl
def E7:sX Tryz.prog 149 i149:=⟨⟨f149,func149,Δ,rfl⟩,J5 rfl,Tryz.uu,.inr (.inr ⟨rfl,rfl,rfl,Tryz.abo⟩)⟩
def E6:sX Tryz.prog 231 i231:=⟨⟨f231,func231,Δ,rfl⟩,J5 rfl,Tryz.ur,.inl ⟨rfl,rfl,rfl,Tryz.abn⟩⟩
def E5:sX Tryz.prog 256 i256:=⟨⟨f256,func256,Δ,rfl⟩,J5 rfl,Tryz.uq,.inr (.inl ⟨rfl,Δ,rfl,Tryz.abm,isAgg278,sizeOf278⟩)⟩
theorem wg:JN Tryz.prog aO:=by
 intro f i h;have hm0:(f,i)∈SE.all:=FT.mem (t:=SE) h;have hs:=nu.1 SD _ hm0;cases h4:Nat.blt (i.mode%7) 4 with
 |true =>
  refine .inl ⟨J5 h4,?_⟩
  have hm:(f,i)∈(tab0.all++tab1.all)++(tab2.all++tab3.all):=hm0
  rw[qY,qY,qY]at hm
  rcases hm with(hm|hm)|hm|hm
  .exact zb0 tc0 _ hm h4
  .exact zb0 tc1 _ hm h4
  .exact zb0 tc2 _ hm h4
  .exact zb0 tc3 _ hm h4
 |false =>
  refine .inr ?_
  simp only[h4,jg,vX]at hs
  rcases hs with(e|e)|e
  .obtain rfl:=MK e
   obtain rfl:i149=i:=s6 (show some i149=some i from h)
   exact E7
  .obtain rfl:=MK e
   obtain rfl:i231=i:=s6 (show some i231=some i from h)
   exact E6
  .obtain rfl:=MK e
   obtain rfl:i256=i:=s6 (show some i256=some i from h)
   exact E5
end Go.Proofs.YtjibdelmjcenhaaGreatDoor
namespace Go.Proofs.YtjibdelmjcenhaaGreatDoor
open Go Go.RowKit
def S0:bX:=fun f args=>bif Nat.beq f 53||Nat.beq f 144 then (match args with
 |[.str s]=>bif Nat.ble s.size 1000000000000 then some (.int .i64 (Nm.check s.data.toList))else none
 | _=>none) else none
def Ih:IV:=.agg [.slC [.int .i64 1,.int .i64 0,.int .i64 0] 1 3 true,.slC [.int .i64 1,.int .i64 1,.int .i64 1,.slC [.int .i64 10,.int .i64 0,.int .i64 10,.int .i64 10,.int .i64 0,.int .i64 10] 3 2 true,.int .i64 1,.int .i64 0] 1 6 true,.slC [.int .i64 1] 1 1 true]
def S1:bX:=Ig 185 [Ih] (.int .i64 0) S0
def S2:bX:=Ig 46 [Ih] (.int .i64 0) S1
def S3:bX:=Ig 8 [] (.bool true) S2
def SL:bX:=Ig 8 [] (.bool true) S0
theorem Fh:aL aO S0 400 0 (fun _=>[]) [] [] 0 185 [Ih]=some (.r,.int .i64 0,[]):=by kernel_rfl
theorem Fi:aL aO S1 400 0 (fun _=>[]) [] [] 0 46 [Ih]=some (.r,.int .i64 0,[]):=by kernel_rfl
theorem KC:aL aO S2 400 0 (fun _=>[]) [] [] 0 8 []=some (.r,.bool true,[]):=by kernel_rfl
theorem Zd:Tryz.prog.follows .mixedOrders=true:=by kernel_rfl
theorem aee{W0:World}(ht:Gl.Tab W0)(hm:nV W0):sU Tryz.prog W0.heap.size W0 S0:=by
 intro f args v h;unfold S0 at h;cases hf:(Nat.beq f 53||Nat.beq f 144)
 .rw[hf]at h;cases h
 .rw[hf,bV]at h;split at h
  .rename_i s;cases hs:Nat.ble s.size 1000000000000
   .rw[hs]at h;cases h
   .rw[hs,bV]at h;cases h;rcases vX _ _▸hf with hf|hf
    .obtain rfl:=MK hf;refine⟨⟨f53,func53,by decide +kernel,by rfl⟩,fun I W args' hb Lf=>?_⟩;obtain⟨y,rfl⟩:∃ y,args'=[y]:=by
      exact xbg
     have hy:=Lf.2 0 _ _ rfl rfl;obtain rfl:=MN hy;refine(FG s W (ht.below hb.below (cI _)) (hm.below hb.below (cI _)) (J5 hs)).mono ?_;rintro e w' ⟨rfl,jt⟩;exact⟨_,rfl,jt,.int _ _⟩
    .obtain rfl:=MK hf;refine⟨⟨f144,func144,by decide +kernel,by rfl⟩,fun I W args' hb Lf=>?_⟩;obtain⟨y,rfl⟩:∃ y,args'=[y]:=by
      exact xbg
     have hy:=Lf.2 0 _ _ rfl rfl;obtain rfl:=MN hy;refine(Fx s W (J5 hs)).mono ?_;rintro e w' ⟨rfl,jt⟩;exact⟨_,rfl,jt,.int _ _⟩
  .cases h
def af2{W0:World}(ht:Gl.Tab W0)(hm:nV W0):sU Tryz.prog W0.heap.size W0 S3 :=
 E4 Zd wg (E4 Zd wg (E4 Zd wg (aee ht hm) Fh rfl rfl) Fi rfl rfl) KC rfl rfl
theorem af1{W0:World}(ht:Gl.Tab W0)(hm:nV W0):sU Tryz.prog W0.heap.size W0 SL:=by
 intro f args v h;cases hc:(Nat.beq f 8&&lY args [])
 .refine aee ht hm f args v ?_;unfold SL Ig at h;rw[hc]at h;exact h
 .refine af2 ht hm f args v ?_;unfold SL Ig at h;unfold S3 Ig;rw[hc]at h ⊢;exact h
variable {f:FuncId}
theorem SZ(h:f≠53/\f≠144)(args:List IV):S0 f args=none:=by
 unfold S0;cases hb:(Nat.beq f 53||Nat.beq f 144)
 .rfl
 .rcases vX _ _▸hb with hb|hb
  .exact absurd (MK hb) h.1
  .exact absurd (MK hb) h.2
theorem wj(h1:f≠53/\f≠144)(h2:f≠8)(args:List IV):SL f args=none:=by
 unfold SL Ig;cases hb:Nat.beq f 8
 .rw[dZ,bT,SZ h1]
 .exact absurd (MK hb) h2
def aen:bk SL:=fun f args h1 h2 _ _=>wj h1 h2 args
theorem aa2:SL 8 []=some (.bool true):=by kernel_rfl
theorem Nk:∀{a:ByteArray},0<a.size->(a.toList==(bs []).toList)=false
 |⟨⟨l⟩⟩,h=>by
  rw[show(ByteArray.mk { toList:=l })=ByteArray.mk l.toArray from rfl,ByteArray.toList_mk];have hl:(ByteArray.mk { toList:=l }).size=l.length:=rfl;rw[hl]at h;have e:(bs []).toList=[]:=by rw[show bs []=ByteArray.mk ([]:List UInt8).toArray from rfl,ByteArray.toList_mk]
  rw[e];cases l with
  |nil=>simp at h
  |cons a b=>rfl
theorem nmL:Mx SL fun s=>Nm.check s.data.toList:=fun s=>by
 cases hs:Nat.ble s.1.size 1000000000000
 .have hbig:1000000000000<s.1.size:=by rw[←tZ,Nat.ble_eq]at hs;omega
  have hnm:Nm.check s.1.data.toList=3:=xcc
  have hnone:SL 53 [.str s.1]=none:=xco
  show aM SL 20 53 [.str s.1] (.int .i64 (Nm.check s.1.data.toList));rw[hnm];have agv:s.1.size<9223372036854775808:=zmf s.2 Δ;have hne:(s.1.toList==(bs []).toList)=false:=Nk Z;have hgt:decide ((s.1.size:Int)>40)=true:=by rw[decide_eq_true_iff];omega
  have hR:∀ m,4<=m->∀ d ah aJ aa id,aL aO SL m d ah aJ aa id 113 [.str s.1]=some (.r,.tuple [.nilsl,.int .i64 3],aa):=by refine zr (i:=i113) (Cz aen) rfl rfl (bP rfl) 3 fun m hm d ah t af=>?_;obtain⟨m,rfl⟩:=gv m 2;simp only[slotsOf,za,zb,i113]at af;simp only[i113,V0,seval,af,mE,hne,hgt,iY,bh,mq,qi,nY,nZ];exact⟨_,rfl,rfl⟩
  refine zg (i:=i53) hnone rfl rfl (bP rfl) 19 Z zp fun m hm d ah t af=>?_;simp only[slotsOf,za,zb,i53]at af;have c0:=hR m Z;simp only[i53,V0,seval,af,c0]
 .intro m hm d ah aJ aa id;refine zcj ?_ m Z d ah aJ aa id;exact xco
theorem nm7(s:{ s:ByteArray // s.size<=maxLen }):∃ N,aM SL N 144 [.str s.1] (.int .i64 (Nm.check s.1.data.toList)):=by
 refine⟨20,?_⟩;cases hs:Nat.ble s.1.size 1000000000000
 .have hbig:1000000000000<s.1.size:=by rw[←tZ,Nat.ble_eq]at hs;omega
  have hnm:Nm.check s.1.data.toList=3:=xcc
  have hnone:SL 144 [.str s.1]=none:=xck
  rw[hnm];have agv:s.1.size<9223372036854775808:=zmf s.2 Δ;have hne:(s.1.toList==(bs []).toList)=false:=Nk Z;have hgt:decide ((s.1.size:Int)>40)=true:=by rw[decide_eq_true_iff];omega
  refine zg (i:=i144) hnone rfl rfl (bP rfl) 19 Z zp fun m hm d ah t af=>?_;simp only[slotsOf,za,zb,i144]at af;simp only[i144,V0,seval,af,mE,hne,hgt,iY]
 .intro m hm d ah aJ aa id;refine zcj ?_ m Z d ah aJ aa id;exact xck
def RU(l:List (Int×Int))(c:Int×Int):Bool:=l.any fun x=>(x.1==c.1)&&(x.2==c.2)
theorem zd9{l:List (Int×Int)}{c:Int×Int}:RU l c=true↔c∈l:=by unfold RU;grind
variable {S:bX}
section
theorem aah(hS:bk S)(l:aR 2 lV)(c:Int×Int):aM S (l.l.length+10) 18 [l.v,.agg [.int .i64 c.1,.int .i64 c.2]] (.bool (RU l.l c)):=by
 refine zg (hS _ _ M M M M) rfl rfl (bP rfl) (l.l.length+9) Z zk fun m hm d ah t af=>?_;simp only[slotsOf,za,zb,i18]at af;have hlf:=l.eZ;simp[i18,V0,seval,af];refine zm l.l.length (fun i st=>((l.l.take i).any fun x=>(x.1==c.1)&&(x.2==c.2))=false/\st.aa=[.cells [.int .i64 c.1,.int .i64 c.2]]/\aN 18 st.t [(0,l.v),(3,.ptrM d 0 0),(5,iv i)]) Z ⟨rfl,rfl,by simp[V0,seval,af,cZ]⟩ ?_;rintro i ⟨t,aa⟩ KA hi ⟨hno,ho,af⟩ bp bK bQ;subst ho;simp[za,zb,zf]at af;by_cases h:i<l.l.length
 .have hx:l.l[i]?=some l.l[i]:=dw h;have hmem:l.l[i]∈l.l:=gQ h;generalize l.l[i]=x at hx hmem;have hr:bB (l.l.flatMap lV) (i*2) 2=some [.int .i64 x.1,.int .i64 x.2]:=(zd zG 0 2 hx Z).trans rfl;have hw:=zt i;have fb:∀ b:Bool,(false != b)=b:=fun b=>by simp
  cases hq:(x.1==c.1)&&(x.2==c.2)
  .simp only[V0,seval,af,h,zc l h,hr,P9,hq,fb,hw];exact bp Z _ ⟨by rw[jh,hx,Vs,hno];grind,rfl,by simp[V0,seval,af,hw,fb]⟩
  .have hi:RU l.l c=true:=by exact Bj.2 ⟨x,hmem,hq⟩
   simp[V0,seval,af,h,zc l h,hr,P9,hq,fb];refine bQ _ ?_;simp[V0,seval,af,hi]
 .simp[V0,seval,af,h];refine bK _ _ ?_;rw[(fT Z)]at hno;have hi:RU l.l c=false:=hno;simp[V0,seval,af,hi]
end
theorem DL{H:Type}{P:H->Prop}{aW:H->Int}{eqv:H->H->Bool}{nn:Int}(X Y:List { a:H // P a }):lT (fun x=>aW x.1) (fun x y=>eqv x.1 y.1) nn X Y=lT aW eqv nn (X.map Subtype.val) (Y.map Subtype.val):=by
 have hb:∀ id,p6 (fun x:{ a:H // P a }=>aW x.1) (fun x y=>eqv x.1 y.1) X Y id=p6 aW eqv (X.map Subtype.val) (Y.map Subtype.val) id:=fun id=>by
  unfold p6;rw[List.find?_map,List.find?_map];show _=(match (X.find? fun x=>aW x.1==id).map Subtype.val,(Y.find? fun x=>aW x.1==id).map Subtype.val with|some x,some y=>!(eqv x y)|_,_=>true)
  cases X.find? fun x=>aW x.1==id<;>cases Y.find? fun x=>aW x.1==id<;>rfl
 unfold lT;rw[MV,MV,funext hb];rfl
theorem UB{b o t:Sv}(hb:Sm b)(ho:Sm o)(ht:Sm t){c:Int×Int}(h:c∈cN (Bc b hb) (Bc o ho) (Bc t ht)++cA (Bc b hb) (Bc o ho) (Bc t ht)++cF (Bc b hb) (Bc o ho) (Bc t ht)):c∈tR b o/\c∈tR b t/\c∈tR o t:=by
 have att:∀{H:Type}{P:H->Prop}(l:List H)(h:∀ a∈l,P a),(l.attachWith P h).map Subtype.val=l:=fun l h=>List.attachWith_map_subtype_val h;rw[qY,qY]at h;unfold tR;simp only[qY];rcases h with(h|h)|h
 .let⟨h1,h2,h3⟩:=zfv (fun _ _=>rfl) h;exact⟨.inl (.inl h1),.inl (.inl h2),.inl (.inl h3)⟩
 .let⟨h1,h2,h3⟩:=zfv (fun _ _=>rfl) h;have e:=fun X Y=>DL (P:=fun a=>a.via.l.length<=50000) (aW:=Ac.id) (eqv:=Q4) (nn:=2) X Y;exact xdo
 .let⟨h1,h2,h3⟩:=zfv (fun _ _=>rfl) h;have e:=fun X Y=>DL (P:=fun f=>f.parts.l.length<=50000) (aW:=Ft.id) (eqv:=ftB) (nn:=3) X Y;exact xdo
theorem SA(E:Int)(R:Bv)(q:aR 2 lV)(ec:Int):∃(c1 c2 c3 c4:IV)(l:aR 2 lV)(e:Int),SB E R q ec=.tuple [.agg [c1,c2,c3,c4],l.v,.int .i64 e]/\([c1,c2,c3,c4].all IV.scalar=true)/\(l.l≠[]->e=16/\l.l=q.l):=by
 have hn:(kU 2 lV).l≠[]->∀ P:Prop,P:=fun h=>absurd rfl h;unfold SB;split
 .exact⟨_,_,_,_,kU 2 lV,_,rfl,rfl,fun h=>hn h _⟩
 .split
  .exact⟨_,_,_,_,q,_,rfl,rfl,fun _=>⟨rfl,rfl⟩⟩
  .split
   .exact⟨_,_,_,_,kU 2 lV,_,rfl,rfl,fun h=>hn h _⟩
   .refine⟨_,_,_,_,kU 2 lV,_,rfl,?_,fun h=>hn h _⟩;simp[oO,MW,yI,JZ]
theorem E8(hS:bk S)(b o t:Sv):∃(B:Bool)(N:Nat),aM S N 7 [.agg b.c,.agg o.c,.agg t.c] (.bool B)/\(B=true->Sm b/\Sm o/\Sm t):=by
 let⟨b1,kK,s1⟩:=zc1 hS b;let⟨b2,fE,s2⟩:=zc1 hS o;let⟨b3,hb3,s3⟩:=zc1 hS t;refine ⟨b1&&(b2&&b3),(b.pl.az.l.length+b.ft.l.length+20)+(o.pl.az.l.length+o.ft.l.length+20)+(t.pl.az.l.length+t.ft.l.length+20)+10+1,?_,fun h=>by
  grind⟩
 refine zg (hS _ _ M M M M) rfl rfl (bP rfl) ((b.pl.az.l.length+b.ft.l.length+20)+(o.pl.az.l.length+o.ft.l.length+20)+(t.pl.az.l.length+t.ft.l.length+20)+10) Z zk fun m hm d ah tt af=>?_;simp only[slotsOf,za,zb,i7,Sv.c]at af;have c0:=kK m Z;have c1:=fE m Z;have c2:=hb3 m Z;simp[Sv.c]at c0 c1 c2;cases b1<;>cases b2<;>cases b3<;>simp only[i7,V0,seval,af,c0,c1,c2]
theorem OK(hS:bk S)(De:∀ args,S 185 args=none)(Ws:∀ args,S 46 args=none){nm:ByteArray->Int}(hN:Mx S nm)(h7:∀ x:{ s:ByteArray // s.size<=maxLen },∃ N,aM S N 144 [.str x.1] (.int .i64 (nm x.1)))(hA:S 8 []=some (.bool true))(b o t:Sv):∃ N,aM S N 6 [.agg b.c,.agg o.c,.agg t.c] (.bool true):=by
 let⟨B,N0,h0,hB⟩:=E8 hS b o t;have haw:=fun m (hm:1<=m) d ah aJ aa i=>zcj (F:=aO) hA m hm d ah aJ aa i;cases B
 .refine⟨N0+10+1,zg (i:=i6) (hS _ _ M M M M) rfl rfl (bP rfl) (N0+10) Z zk fun m hm d ah tt af=>?_⟩;simp only[slotsOf,za,zb,i6,Sv.c]at af;have c0:=h0 m Z;simp[Sv.c]at c0;simp only[i6,V0,seval,af,c0,(fun d ah aJ aa id=>haw m Z d ah aJ aa id)]
 let⟨hb,ho,ht⟩:=hB rfl;let⟨e1,N1,k1⟩:=w8 hS h7 b hb;let⟨e2,N2,k2⟩:=w8 hS h7 o ho;let⟨e3,N3,k3⟩:=w8 hS h7 t ht;obtain⟨p1,M1,f1⟩:=Yx hS De Ws hN b (by have:=hb.ns;omega) (by have:=hb.ar;omega) (fun a ha=>by have:=hb.via a ha;omega);obtain⟨p2,M2,f2⟩:=Yx hS De Ws hN o (by have:=ho.ns;omega) (by have:=ho.ar;omega) (fun a ha=>by have:=ho.via a ha;omega);obtain⟨p3,M3,f3⟩:=Yx hS De Ws hN t (by have:=ht.ns;omega) (by have:=ht.ar;omega) (fun a ha=>by have:=ht.via a ha;omega);have qS:=LZ hS (N:=M1+M2+M3) (fun m hm=>f1 m Z) (fun m hm=>f2 m Z) (fun m hm=>f3 m Z);obtain⟨R,q,_,pY,hR2,hR3,hR4,hq,hcb⟩:=Qz hS (Nc:=4) Z (Bc b hb) (Bc o ho) (Bc t ht) (we hb) (we ho) (we ht);obtain ⟨ec,M4,f4⟩:=Yx hS De Ws hN R.sv (by
  show R.ns.l.length<=200;rw[pY];refine iQ YR ?_;have:=hb.ns;have:=ho.ns;have:=ht.ns;show b.pl.ns.l.length+o.pl.ns.l.length+t.pl.ns.l.length<=200;omega) (by
  show(R.az.l.map Subtype.val).length<=200;rw[qE,hR2,qE];refine iQ YR ?_;have:=hb.ar;have:=ho.ar;have:=ht.ar;show(b.pl.az.l.attachWith _ _).length+(o.pl.az.l.attachWith _ _).length+(t.pl.az.l.attachWith _ _).length<=200;grind) (XA R)
 have h3:=Ki hS (b:=Bc b hb) (o:=Bc o ho) (t:=Bc t ht) (R:=R) (q:=q) (E:=Ud p1 p2 p3) (ec:=ec) (N:=M1+M2+M3+M4+400100) (fun m hm=>qS m Z) (fun m hm=>hcb m Z) (fun m hm=>f4 m Z);let⟨v1,v2,v3,v4,l,e,hv,hsc,hl⟩:=SA (Ud p1 p2 p3) R q ec;rw[hv]at h3;obtain⟨q1,hq1,R4⟩:=ZZ hS (Nc:=4) Z b o hb ho;obtain⟨q2,lQ,hd2⟩:=ZZ hS (Nc:=4) Z b t hb ht;obtain⟨q3,Lg,hd3⟩:=ZZ hS (Nc:=4) Z o t ho ht;have hin:∀ c∈l.l,e=16/\RU q1.l c=true/\RU q2.l c=true/\RU q3.l c=true:=fun c hc=>by let⟨g1,g2⟩:=hl (fun h=>by grind);rw[g2,hq]at hc;let⟨g3,g4,g5⟩:=UB hb ho ht hc;exact⟨g1,zd9.2 (by grind),zd9.2 (by grind),zd9.2 (by grind)⟩
 clear hq hl hq1 lQ Lg pY hR2 hR3 hR4 hv;refine⟨N0+N1+N2+N3+M1+M2+M3+M4+l.l.length+q1.l.length+q2.l.length+q3.l.length+500000+1,zg (i:=i6) (hS _ _ M M M M) rfl rfl (bP rfl) (N0+N1+N2+N3+M1+M2+M3+M4+l.l.length+q1.l.length+q2.l.length+q3.l.length+500000) Z zk fun m hm d ah tt af=>?_⟩;simp only[slotsOf,za,zb,i6,Sv.c]at af;have c0:=h0 m Z;have ca:=haw m Z;have c1:=k1 m Z;have c2:=k2 m Z;have c3:=k3 m Z;have c4:∀ d ah aJ aa id,aL aO S m d ah aJ aa id 9 [.agg b.c,.agg o.c,.agg t.c]=_:=h3 m Z;have c5:=R4 m Z;have c6:=hd2 m Z;have c7:=hd3 m Z;simp[Sv.c]at c0 c1 c2 c3 c4 c5 c6 c7;clear k1 k2 k3 h3 R4 hd2 hd3 f1 f2 f3 f4 qS hcb;have nt:∀ z:Int,z≠0->(z != 0)=true:=fun z h=>by grind
 have nf:((0:Int) != 0)=false:=rfl;by_cases g1:e1=0;rotate_left
 .simp only[i6,V0,seval,af,c0,ca,c1,nt e1 g1]
 subst g1;by_cases g2:e2=0;rotate_left
 .simp only[i6,V0,seval,af,c0,ca,c1,nf,c2,nt e2 g2]
 subst g2;by_cases g3:e3=0;rotate_left
 .simp only[i6,V0,seval,af,c0,ca,c1,nf,c2,c3,nt e3 g3]
 subst g3;simp[oO,MW,JY,kE]at hsc;simp only[i6,V0,seval,af,c0,c1,nf,c2,c3,c4,hsc,c5,c6,c7];have hlf:=l.eZ;have RZ:=q1.eZ;have ci:=fun(qq:aR 2 lV)(h:qq.l.length<=l.l.length+q1.l.length+q2.l.length+q3.l.length)(c:Int×Int) d ah aJ aa id=>aah hS qq c m Z d ah aJ aa id;have i1:=ci q1 Z;have i2:=ci q2 Z;have i3:=ci q3 Z;clear ci;refine zn (fun jj st=>∃(i:Nat),l.l.length-i<=jj/\i<=l.l.length/\aN 107 st.t [(8,l.v),(9,.int .i64 e),(10,q1.v),(11,q2.v),(12,q3.v),(13,iv i)]) l.l.length Z ⟨0,Z,Z,by simp[V0,seval,af,cZ]⟩ ?_;clear af c0 c1 c2 c3 c4 c5 c6 c7;rintro jj ⟨tt,aa⟩ KA ⟨i,hjj,hi,af⟩ bp bK bQ;dsimp only at af;simp[za,zb,zf]at af;by_cases h:i<l.l.length
 .have hx:l.l[i]?=some l.l[i]:=dw h;let⟨he,j1,j2,j3⟩:=hin l.l[i] (gQ h);generalize l.l[i]=x at hx j1 j2 j3;subst he;have hr:bB (l.l.flatMap lV) (i*2) 2=some [.int .i64 x.1,.int .i64 x.2]:=(zd zG 0 2 hx Z).trans rfl;have hw:=zt i;simp only[V0,seval,af,h,(rfl:((16:Int) != 16)=false),zc l h,hr,i1,j1,i2,j2,i3,j3,hw];exact bp _ (l.l.length-(i+1)) Z ⟨i+1,Z,Z,by simp[V0,seval,af,hw]⟩
 simp[V0,seval,af,h];refine bK _ _ ?_;simp[V0,seval,af];refine zm q1.l.length (fun i st=>(∀ c∈q1.l.take i,RU q2.l c=false)/\aN 107 st.t [(8,l.v),(10,q1.v),(11,q2.v),(14,iv i)]) Z ⟨M,by simp[V0,seval,af,cZ]⟩ ?_;clear af bp bK bQ hjj hi h;rintro i ⟨tt,aa⟩ KB hi ⟨hno,af⟩ gJ jL kP;dsimp only at af;simp[za,zb,zf]at af;by_cases h:i<q1.l.length
 .obtain⟨x,hx⟩:=fc (l:=q1.l) (i:=i) h;have hr:bB (q1.l.flatMap lV) (i*2) 2=some [.int .i64 x.1,.int .i64 x.2]:=(zd zG 0 2 hx Z).trans rfl;have hw:=zt i;cases hq:RU q2.l x
  .simp only[V0,seval,af,h,zc q1 h,hr,i2,hq,hw];refine gJ Z _ ⟨fun c hc=>?_,by simp[V0,seval,af,hw]⟩;rw[jh,hx,qY]at hc;grind
  .simp[V0,seval,af,h,zc q1 h,hr,i2,hq,ca];refine kP _ ?_;simp[V0,seval,af]
 simp[V0,seval,af,h];refine jL _ _ ?_;rw[fT Z]at hno;have hl0:l.l=[]:=by
  cases hl:l.l with
  |nil=>rfl
  |cons c r =>
   obtain⟨_,j1,j2,_⟩:=hin c (by grind)
   have:=hno c (zd9.1 j1)
   grind
 simp only[V0,seval,af,(show(((l.l.length:Nat):Int)==0)=true by grind),ca]
theorem conf_call(W:World)(ht:Gl.Tab W)(hm:nV W)(s t u:Sv)(v w x:Value)(hv:VR fo W (.agg s.c) v)(hw:VR fo W (.agg t.c) w)(hx:VR fo W (.agg u.c) x):Calls Tryz.prog 6 #[v,w,x] W fun e W'=>e=.returned (.bool true)/\Below W.heap.size W W':=by let⟨N,hN⟩:=OK aen (fun args=>wj M M args) (fun args=>wj M M args) nmL nm7 aa2 s t u;refine(Kz Zd wg (W:=W) (af1 ht hm) (hN N (cI _) 0 (fun _=>[]) [] [] 0) (args':=[v,w,x]) (((dx.nil.cons hx).cons hw).cons hv)).mono ?_;rintro e W' ⟨y,β',rfl,hy,hb⟩;obtain rfl:=Z2 hy;grind
end Go.Proofs.YtjibdelmjcenhaaGreatDoor
end
