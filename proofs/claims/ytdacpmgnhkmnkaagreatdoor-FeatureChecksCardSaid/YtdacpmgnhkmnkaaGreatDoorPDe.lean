/-
  A part of the proof: the small machine, its simulation and its walks.
-/
import Derived.Test.YtdacpmgnhkmnkaaGreatDoorPDc
import Derived.Test.YtdacpmgnhkmnkaaGreatDoorPDd
set_option linter.unusedVariables false
set_option linter.unusedSimpArgs false
set_option linter.unusedSectionVars false
set_option linter.defProp false
set_option maxRecDepth 1000000
set_option maxHeartbeats 3200000
open Nat renaming reduceLT → Xa, reduceAdd → Xb, reduceMul → Xc, reduceLeDiff → Xd, reduceEqDiff → Xe
open Go.Proofs.YtdacpmgnhkmnkaaGreatDoor.IV renaming int → aG
open Go.Proofs.YtdacpmgnhkmnkaaGreatDoor.aO renaming cells → aI
open Go.IntKind renaming i64 → aH
noncomputable section
namespace Go.Proofs.YtdacpmgnhkmnkaaGreatDoor
section
open Go Go.RowKit
theorem Jg{n:Int}:∀{l:List Int},l.Pairwise (·<·)->n∈l->iJ n l=l
 |[],_,h=>by cases h
 |x::l,hp,h=>by
  have h2:=Cb.1 hp;unfold iJ;rcases fF.1 h with rfl|h
  ·rw[bC Ω,bt rfl]
  ·have:=h2.1 n h;rw[bt this,Jg h2.2 h]
theorem Df(n:Int):∀ l:List Int,(iJ n l).length<=l.length+1
 |[]=>by simp[iJ]
 |x::l=>by
  have:=Df n l;unfold iJ;split
  ·simp only[cu];omega
  ·split<;>simp only[cu]<;>omega
theorem Pv{n:Int}:∀{l:List Int}{i:Nat},i<=l.length->n ∉ l->(∀ j x,j<i->l[j]?=some x->x<n)->(∀ x,l[i]?=some x->¬ x<n)->iJ n l=l.take i++n::l.drop i
 |[],i,hi,_,_,_=>by
  obtain rfl:i=0:=by simpa using hi
  rfl
 |x::l,0,_,hn,_,h2=>by have:=h2 x rfl;unfold iJ;rw[bC this,bC (fun e=>hn (by rw[e];exact kB ..))];rfl
 |x::l,i+1,hi,hn,h1,h2=>by have:=h1 0 x Ω rfl;unfold iJ;rw[bt this,Pv (i:=i) (by simpa using hi) (fun h=>hn (nk _ h)) (fun j y hj hy=>h1 (j+1) y Ω hy) (fun y hy=>h2 y hy)];rfl
theorem N9{sz:Nat}{α:Type}{g:α->List IV}(hg:∀ a,(g a).length=sz)(q:aS sz g){i:Nat}(h:i<=q.l.length):∃ q2:aS sz g,q2.l=q.l.take i/\∀(t:List IV)(x:bG),ρ t x=aG aH (i:Int)->eS sz t q.v none (some x) none=some q2.v:=by
 have hh:∀(cs:List IV)(n:Nat)(v:IV),Sl sz cs n v->i<=n->(v=.nilsl/\n=0)∨∃ tight,∀(t:List IV)(x:bG),ρ t x=aG aH (i:Int)->eS sz t v none (some x) none=some (.slC (cs.take (i*sz)) i sz tight):=fun cs n v hs hi=>by
  cases hs with
  |nil=>exact .inl ⟨rfl,rfl⟩
  |row cs n tight hl =>
   refine .inr ⟨tight&&i==n,fun t x hx=>?_⟩
   simp only[eS,lC,hx,zX,zi,SQ,l7,if_false]
   rw[bt ⟨⟨dz _,Ω,NA _⟩,trivial⟩]
   simp
 rcases hh _ _ _ q.ok h with⟨h1,h2⟩|⟨tight,h1⟩
 ·refine⟨q,by rw[gj Ω],fun t x hx=>?_⟩;rw[h1];obtain rfl:i=0:=Ω;simp only[eS,lC,hx,zX];rfl
 have hli:(q.l.take i).length=i:=by rw[k8,qu h]
 refine⟨iV hg (q.l.take i) i tight hli (by have:=q.gC;omega),rfl,fun t x hx=>?_⟩;rw[h1 t x hx,LX hg h];rfl
theorem KO{sz:Nat}{α:Type}{g:α->List IV}(hg:∀ a,(g a).length=sz)(q:aS sz g){i:Nat}(h:i<=q.l.length):∃ q2:aS sz g,q2.l=q.l.drop i/\∀(t:List IV)(x:bG),ρ t x=aG aH (i:Int)->eS sz t q.v (some x) none none=some q2.v:=by
 by_cases h0:q.l.length=0
 ·have hh:∀(cs:List IV)(n:Nat)(v:IV),Sl sz cs n v->n=0->cs=[]->∃ v2,Sl sz [] 0 v2/\∀(t:List IV)(x:bG),ρ t x=aG aH ((0:Nat):Int)->eS sz t v (some x) none none=some v2:=fun cs n v hs hn hc=>by
   cases hs with
   |nil=>exact⟨.nilsl,.nil,fun t x hx=>by simp only[eS,lC,hx,zX];rfl⟩
   |row cs n tight hl =>
    subst hn hc
    exact⟨.slC [] 0 sz (tight&&0==0),.row _ _ _ Ψ,fun t x hx=>by simp only[eS,lC,hx,zX,zi];simp⟩
  have e:=Fv h0;obtain⟨v2,h1,h2⟩:=hh _ _ _ q.ok h0 (by rw[e];rfl);obtain rfl:i=0:=Ω;exact⟨⟨[],v2,h1,Ψ⟩,by rw[e];rfl,h2⟩
 ·exact N8 hg q h h0
section
variable {S:cZ}
theorem DQ(hS:bN S)(l:aS 1 aL)(n:Int):aP S (l.l.length+4) 92 [l.v,iv n] (.bool (l.l.contains n)):=by
 refine ZF (i:=i92) (hS _ _ Δ Δ Δ Δ) rfl rfl (M6 rfl) (l.l.length+3) Ω zj fun m hm d ah t af=>?_;simp only[slotsOf,zb,zc,fO,i92,zg]at af;have hlf:=l.gC;simp only[i92,V0,seval];refine ze (fun jj st=>∃(i:Nat),l.l.length-i<=jj/\i<=l.l.length/\(l.l.take i).contains n=false/\st.aa=[]/\aN 18 st.t [(0,l.v),(1,aG aH n),(5,iv i)]) l.l.length Ω ⟨0,Ω,Ω,Ψ,rfl,by simp only[V0,seval,af,eU]⟩ ?_;clear af;rintro jj ⟨t,aa⟩ K ⟨i,hjj,hi,hc,ho,af⟩ hn he hr;dsimp only at ho af;subst ho;simp only[zb,zc,zg]at af;by_cases h:i<l.l.length
 ·have hx:l.l[i]?=some l.l[i]:=cK h;generalize l.l[i]=x at hx;have kM:bM (l.l.flatMap aL) (i*1) 1=some [aG aH x]:=zd zf 0 1 hx Ω;have hw:=zq i;cases hb:x==n
  ·simp only[V0,seval,af,h,za l h,kM,hb,hw];refine hn _ (l.l.length-(i+1)) Ω ⟨i+1,Ω,Ω,?_,rfl,cD⟩;rw[lH,hx,rP,yS,hc,hb];rfl
  ·simp only[V0,seval,af,h,za l h,kM,hb];refine hr _ ?_;simp only[V0,seval,af,yu hx hb]
 ·simp only[V0,seval,af,h];refine he _ _ ?_;rw[gj Ω]at hc;simp only[V0,seval,af,hc]
theorem Kw(hS:bN S)(l:aS 1 aL)(n:Int)(ha:l.l.Pairwise (·<·))(hl:l.l.length<=1000000):∃ q:aS 1 aL,q.l=iJ n l.l/\aP S (l.l.length+20) 139 [l.v,iv n] q.v:=by
 by_cases hin:l.l.contains n=true
 ·refine⟨l,(Jg ha (nM.1 hin)).symm,zbq (i:=i139) (hS _ _ Δ Δ Δ Δ) rfl rfl (M6 rfl) (l.l.length+19) fun m hm d ah t af=>?_⟩;simp only[slotsOf,zb,zc,fO,i139,zg]at af;have ch:=fun d ah aK aa id=>DQ hS l n m Ω d ah aK aa id;simp only[zg]at ch;simp only[i139,V0,seval,af,ch,hin];exact⟨_,rfl,z7 yF l m Ω _ _⟩
 ·have ag3:n ∉ l.l:=fun h=>hin (nM.2 h);have o8:l.l.contains n=false:=by simpa using hin
  have qD:(iJ n l.l).length<9223372036854775808:=by have:=Df n l.l;omega
  refine⟨iV zf (iJ n l.l) (iJ n l.l).length false rfl qD,rfl,zbq (i:=i139) (hS _ _ Δ Δ Δ Δ) rfl rfl (M6 rfl) (l.l.length+19) fun m hm d ah t af=>?_⟩;simp only[slotsOf,zb,zc,fO,i139,zg]at af;have hlf:=l.gC;have ch:=fun d ah aK aa id=>DQ hS l n m Ω d ah aK aa id;simp only[zg]at ch;simp only[i139,V0,seval,af,ch,o8];refine ze (fun jj st=>∃(i:Nat),l.l.length-i<=jj/\i<=l.l.length/\(∀ j x,j<i->l.l[j]?=some x->x<n)/\st.aa=[.free]/\aN 38 st.t [(0,l.v),(1,aG aH n),(5,iv i)]) l.l.length Ω ⟨0,Ω,Ω,fun j x h _=>absurd h (zm4 _),rfl,by simp only[V0,seval,af,eU]⟩ ?_;clear af;rintro jj ⟨t,aa⟩ KA ⟨i,hjj,hi,Gq,ho,af⟩ bV cS dA;dsimp only at ho af;subst ho;simp only[zb,zc,zg]at af;have fin:∀(t:List IV),(∀ x,l.l[i]?=some x->¬ x<n)->aN 38 t [(0,l.v),(1,aG aH n),(5,iv i)]->KA (.exit 0) ⟨t,[.free]⟩:=by
   clear af bV dA t;intro t DC af;simp only[zb,zc,zg]at af;refine cS _ _ ?_;have hins:=Pv hi ag3 Gq DC;obtain⟨q1,hq1,hs1⟩:=N9 zf l hi;obtain⟨q2,lG,hs2⟩:=KO zf l hi;rw[←hq1,←lG]at hins;have n1:q1.l.length<=1000000:=by rw[hq1,k8];omega
   have n2:q2.l.length<=1000000:=by rw[lG,tD];omega
   have f1:=zl zf (l:=q1.l);have f2:=zl zf (l:=q2.l);have hsc:∀ xs:List Int,(xs.flatMap aL).all IV.scalar=true:=fun xs=>ot.2 fun x hx=>by obtain⟨a,_,h⟩:=qS.1 hx;simp only[aL,fF,j4,k7]at h;rcases h with rfl;rfl
   have ae5:∀ l:List IV,rep l 0=[]:=fun l=>rfl;have hz:∀(b k:Nat)(aa:aU)(c:List IV),aa[b]?=some (aI c)->c=(iJ n l.l).flatMap aL->k=(iJ n l.l).length->freeze m d aa (.slM d b 0 k k 1 false)=some (iV zf (iJ n l.l) (iJ n l.l).length false rfl qD).v:=by rintro b k aa c ho rfl rfl;exact yi (k:=1) yF Ω rfl zf ho
   have e1:(iJ n l.l).length=q1.l.length+(1+q2.l.length):=by rw[hins,eR,cu];omega
   have e2:(iJ n l.l).flatMap aL=q1.l.flatMap aL++([aG aH n]++q2.l.flatMap aL):=by rw[hins,B6,fJ];rfl
   have ha1:∀ lk,q1.l.length≠0->bh d 1 lk [.free,.free] 1 (.slC [] 0 1 true) (q1.l.flatMap aL) q1.l.length 0=some (.a,.slM d 1 0 q1.l.length q1.l.length 1 false,[.free,aI (q1.l.flatMap aL)]):=fun lk h=>by rw[zbj h Ω];rfl
   have ha2:∀ lk,bh d 2 lk [.free,.free,.free,.free] 1 (.slC [] 0 1 true) [aG aH n] 1 0=some (.a,.slM d 2 0 1 1 1 false,[.free,.free,aI [aG aH n],.free]):=fun lk=>by rw[zbj Δ Δ];rfl
   have ha3:q1.l.length≠0->bh d 2 (look d ah (b7 [] 2 [.free,aI (q1.l.flatMap aL),.free,.free])) [.free,aI (q1.l.flatMap aL),.free,.free] 1 (.slM d 1 0 q1.l.length q1.l.length 1 false) [aG aH n] 1 0=some (.k 1 2,.slM d 2 0 (q1.l.length+1) (q1.l.length+1) 1 false,[.free,.gone,aI (q1.l.flatMap aL++[aG aH n]),.free]):=fun h=>by rw[zY Δ Ω f1 rfl (by rw[wu (.inl Δ)];rfl)];rfl
   have ha4:∀(x:aO)(k:Nat)(c:List IV),c.length=k*1->k<=1000001->q2.l.length≠0->bh d 2 (look d ah (b7 [0] 2 [.free,x,aI c,.free])) [.free,x,aI c,.free] 1 (.slM d 2 0 k k 1 false) (q2.l.flatMap aL) q2.l.length 1=some (.k 2 3,.slM d 3 0 (k+q2.l.length) (k+q2.l.length) 1 false,[.free,x,.gone,aI (c++q2.l.flatMap aL)]):=fun x k c hc hk h=>by rw[zY h Ω hc (hsc _) (by rw[wu (.inr rfl)];rfl)];rfl
   by_cases h1:q1.l.length=0
   ·have g1:=Fv h1;by_cases h2:q2.l.length=0
    ·have g2:=Fv h2;simp only[V0,seval,af,zh,zk,zo,ZC,hs1,hs2,zw,h1,h2,zbk,rep,zu,ha2,ze9];exact⟨_,rfl,hz 2 _ _ _ rfl (by rw[e2,g1,g2];rfl) (by rw[e1,h1,h2])⟩
    ·simp only[V0,seval,af,zh,zk,zo,ZC,hs1,hs2,zw,h1,zbk,rep,zu,ha2,ha4 .free 1 [aG aH n] rfl Ω h2];exact⟨_,rfl,hz 3 _ _ _ rfl (by rw[e2,g1];rfl) (by rw[e1,h1];omega)⟩
   ·by_cases h2:q2.l.length=0
    ·have g2:=Fv h2;simp only[V0,seval,af,zh,zk,zo,ZC,hs1,hs2,zw,h2,ha1 _ h1,ha3 h1,rep,zu,ze9];exact⟨_,rfl,hz 2 _ _ _ rfl (by rw[e2,g2];simp) (by rw[e1,h2])⟩
    ·simp only[V0,seval,af,zh,zk,zo,ZC,hs1,hs2,zw,ha1 _ h1,ha3 h1,rep,zu,ha4 .gone (q1.l.length+1) (q1.l.flatMap aL++[aG aH n]) (by rw[eR,f1];simp) Ω h2];exact⟨_,rfl,hz 3 _ _ _ rfl (by rw[e2];simp) (by rw[e1];omega)⟩
  by_cases h:i<l.l.length
  ·have hx:l.l[i]?=some l.l[i]:=cK h;generalize l.l[i]=x at hx;have kM:bM (l.l.flatMap aL) (i*1) 1=some [aG aH x]:=zd zf 0 1 hx Ω;have hw:=zq i;by_cases hb:x<n
   ·simp only[V0,seval,af,h,za l h,kM,hb,hw];refine bV _ (l.l.length-(i+1)) Ω ⟨i+1,Ω,Ω,fun j y hj hy=>?_,rfl,cD⟩;by_cases hj2:j<i
    ·exact Gq j y hj2 hy
    ·obtain rfl:j=i:=Ω;rw[hx]at hy;cases hy;exact hb
   ·simp only[V0,seval,af,h,za l h,kM,hb];exact fin _ (fun y hy=>by rw[hx]at hy;cases hy;exact hb) cD
  ·simp only[V0,seval,af,h];exact fin _ (fun y hy=>by rw[BZ Ω]at hy;cases hy) cD
end
def RdI(d:Nat)(ah:bR)(lv:IV)(xs:List Int):Prop:=(∃ q:aS 1 aL,q.l=xs/\q.v=lv)∨∃ l b cap tg,l<d/\lv=.slM l b 0 xs.length cap 1 tg/\(ah l)[b]?=some (aI (xs.flatMap aL))
theorem Pd(l:List Int)(x:Int):B7 (l++[x])=iJ x (B7 l):=by unfold B7;rw[zmo];rfl
theorem KI{α:Type}{l:List α}{i:Nat}{x:α}(h:l[i]?=some x):l.take (i+1)=l.take i++[x]:=by rw[lH,h];rfl
section
variable {S:cZ}
theorem Dh(hS:bN S)(xs:List Int)(hn:xs.length<=100000){d:Nat}{ah:bR}{aK aa:aU}{id:Nat}{lv:IV}(h:RdI (d+1) (fun l=>if l=d then aK else ah l) lv xs){m:Nat}(hm:300000<=m) :
  ∃ q:aS 1 aL,q.l=B7 xs/\aM aR S m d ah aK aa id 95 [lv]=some (.r,q.v,aa):=by
 obtain⟨m,rfl⟩:=me m 1
 have main:∃ r,aM aR S (m+1) d ah aK aa id 95 [lv]=some r/\∃ q:aS 1 aL,q.l=B7 xs/\r=(.r,q.v,aa):=by
  refine yz (i:=i95) (hS _ _ Δ Δ Δ Δ) rfl Δ (M6 rfl) fun t af=>?_;simp only[slotsOf,zb,zc,i95]at af;generalize(fun l=>if l=d then aK else ah l:bR)=cQ at h ⊢
  have hlen:∀ d aa aK,jL d cQ aK aa 1 lv=some (.p,aG aH (xs.length:Nat),aa):=fun d aa aK=>by
   rcases h with⟨q,rfl,rfl⟩|⟨l,b,cap,tg,_,rfl,_⟩
   ·exact yp q
   ·exact Zd
  have ae5:∀ l:List IV,rep l 0=[]:=fun l=>rfl;simp only[i95,V0,seval,af,ae5];refine ze (fun jj st=>∃(i:Nat)(q:aS 1 aL)(O:aU),xs.length-i<=jj/\i<=xs.length/\q.l=B7 (xs.take i)/\st.aa=O/\aN 19 st.t [(0,lv),(3,q.v),(4,iv i)]) xs.length Ω ⟨0,iV zf [] 0 true rfl Ω,[],Ω,Ω,rfl,rfl,by simp only[V0,seval,af,eU];rfl⟩ ?_;clear af;rintro jj ⟨t,bO⟩ KA ⟨i,q,O,hjj,hi,hq,ho,af⟩ bV cS dA;dsimp only at ho af;subst ho;simp only[zb,zc,zg]at af;by_cases h2:i<xs.length
  ·have hx:xs[i]?=some xs[i]:=cK h2;generalize xs[i]=x at hx;have kM:bM (xs.flatMap aL) (i*1) 1=some [aG aH x]:=zd zf 0 1 hx Ω;have hw:=zq i;have pU:q.l.length<=100000:=by rw[hq];have:=IY (xs.take i);rw[k8]at this;omega
   obtain⟨q2,lG,cw⟩:=Kw hS q x (by rw[hq];exact AN _) Ω;have cw:=fun d ah aK aa id=>cw m Ω d ah aK aa id;have PR:q2.l=B7 (xs.take (i+1)):=by rw[KI hx,Pd,←hq,lG]
   simp only[zg]at cw;rcases h with⟨q0,rfl,rfl⟩|⟨l,b,cap,tg,hl,rfl,hb⟩
   ·simp only[V0,seval,za q0 h2, *];exact bV _ (q0.l.length-(i+1)) Ω ⟨i+1,q2,_,Ω,Ω,PR,rfl,cD⟩
   ·have om:¬ l=d+1:=Ω;simp only[V0,seval,zm,hb, *];exact bV _ (xs.length-(i+1)) Ω ⟨i+1,q2,_,Ω,Ω,PR,rfl,cD⟩
  ·simp only[V0,seval,af,hlen,h2];refine cS _ _ ?_;rw[gj Ω]at hq;simp only[V0,seval,af];exact ⟨.inr trivial,_,_,rfl,by
    show(freeze m (d+1) bO q.v).map _=_;rw[z7 yF q m Ω];rfl,q,hq,rfl⟩
 obtain⟨r,h1,q,h2,rfl⟩:=main
 exact⟨q,h2,h1⟩
end
theorem Yz{α:Type}{P:α->Nat->Prop}(hmono:∀ a n m,n<=m->P a n->P a m):∀{l:List α},(∀ a∈l,∃ N,P a N)->∃ N,∀ a∈l,P a N
 |[],_=>⟨0,fun _ h=>by cases h⟩
 |a::l,h=>by
  obtain⟨N1,h1⟩:=h a (kB ..);obtain⟨N2,h2⟩:=Yz hmono fun b hb=>h b (nk _ hb);refine⟨N1+N2,fun b hb=>?_⟩;rcases fF.1 hb with rfl|hb
  ·exact hmono _ _ _ Ω h1
  ·exact hmono _ _ _ Ω (h2 b hb)
def bD(p:Pn)(node:Int):List Int:=match dN p node with
 |none=>[]
 |some nd=>Ak (bB p node) (s7 (gu nd.at') ((bB p node).map (fS p)))
theorem ZZ(p:Pn)(node:Int):(bB p node).length<=2*p.az.l.length:=by
 unfold bB;have:∀ l:List Ac,(l.flatMap (cV node)).length<=2*l.length:=fun l=>by
  induction l with
  |nil=>simp
  |cons a l ih =>
   rw[fJ,eR,cu]
   have:(cV node a).length<=2:=by unfold cV;split<;>split<;>simp
   omega
 exact this _
theorem Oi{β:Type}{ds:List β}{rk:List Nat}:(Ak ds rk).length<=ds.length:=by
 unfold Ak;cases h:kD ds rk ds.length with
 |none=>simp
 |some l=>rw[tE,vM h];exact dz _
theorem YT(p:Pn)(node:Int):(bD p node).length<=2*p.az.l.length:=by
 unfold bD;split
 ·simp
 ·exact lW Oi (ZZ p node)
section
variable {S:cZ}
theorem MN(hS:bN S)(p:Pn)(iz:bQ p)(ha:p.az.l.length<=100000)(node:Int)(hok:∀ z∈bB p node,iw p z):∃ q:aS 1 aL,q.l=bD p node/\∃ N,aP S N 209 [.agg p.c,aG aH node] q.v:=by
 have ahg:=YT p node;have hlim:(bD p node).length<9223372036854775808:=Ω;obtain⟨N0,h0⟩:=ZU hS p node;cases hn:dN p node with
 |none =>
  refine⟨lP 1 aL,by unfold bD;rw[hn];rfl,N0+11,sX i209 hS (N0+10) fun m hm d ah t af=>?_⟩
  simp only[V2,i209,Pn.c]at af
  have c0:=h0 m Ω
  have hn2:(p.ns.l.find? fun f=>f.id==node)=none:=hn
  simp only[hn2,Pn.c,zg,Nd.c,SQ,Option.getD_none]at c0
  simp only[i209,V0,Xa,Xb,Xe,af,c0,bg]
  exact⟨_,rfl,SD (n:=2) rfl m Ω _ _⟩
 |some nd =>
  have hdf:=ZZ p node
  obtain⟨N1,h1⟩:∃ N,∀ z∈bB p node,aP S N 235 [.agg p.c,aG aH z] (.agg (fS p z).c):=Yz (P:=fun z N=>aP S N 235 [.agg p.c,aG aH z] (.agg (fS p z).c)) (fun a n m hnm h m' hm'=>h m' Ω) fun z hz=>MF hS p z iz (hok z hz)
  have hA:bD p node=Ak (bB p node) (s7 (gu nd.at') ((bB p node).map (fS p))):=by unfold bD;rw[hn]
  refine⟨eX zf (bD p node) hlim,yg ..,N0+N1+3*p.az.l.length+41,sX i209 hS (N0+N1+3*p.az.l.length+40) fun m hm d ah t af=>?_⟩
  simp only[V2,i209,Pn.c]at af
  have c0:=h0 m Ω
  have hn2:(p.ns.l.find? fun f=>f.id==node)=some nd:=hn
  simp only[hn2,Pn.c,zg,Nd.c,Option.isSome_some,tE]at c0
  have LN:∀ z∈bB p node,∀ d ah aK aa id,aM aR S m d ah aK aa id 235 [.agg [p.ns.v,p.az.v,p.fs.v],aG aH z]=some (.r,.agg [aG aH (fS p z).x,aG aH (fS p z).y],aa):=fun z hz d ah aK aa id=>h1 z hz m Ω d ah aK aa id
  generalize hds:bB p node=ds at LN hA hdf
  have p1:=fun K t O1 O2 af hK=>@MM S hS p Ω node m d ah Ω K t O1 O2 af hK
  rw[hds]at p1
  have p2:=fun K t Q dv pV hD af hK=>@Hg S hS p ds Ω m d ah Ω LN K t Q dv pV hD af hK
  generalize hto:ds.map (fS p)=to at hA p2
  have hdl:ds.length=to.length:=by rw[←hto,ig]
  have p3:=fun K t Q J tv dv lv xs hxl Qh hD hT hO af hK hR=>@Vw S hS nd.at' to Ω m d ah Ω K t Q J tv dv lv ds xs hdl hxl nd.id Qh hD hT hO af hK hR
  generalize hrk:s7 (gu nd.at') to=rk at hA p3
  rw[show i209.body=.seq (i209.body.sub [0]) (.seq (i209.body.sub [1,0]) (.seq (i209.body.sub [1,1,0]) (.seq (i209.body.sub [1,1,1,0]) (.seq (i209.body.sub [1,1,1,1,0]) (.seq (i209.body.sub [1,1,1,1,1,0]) (.seq (i209.body.sub [1,1,1,1,1,1,0]) (.seq (i209.body.sub [1,1,1,1,1,1,1,0]) (.seq (.block 4 (.loop (.seq (.seq (i209.body.sub [1,1,1,1,1,1,1,1,0,0,0,0,0]) (i209.body.sub [1,1,1,1,1,1,1,1,0,0,0,0,1])) (i209.body.sub [1,1,1,1,1,1,1,1,0,0,0,1])))) (.seq (i209.body.sub [1,1,1,1,1,1,1,1,1,0]) .ret)))))))))from rfl]
  generalize i209.body.sub [1,1,1,1,0]=B1 at p1 ⊢
  generalize hB5:i209.body.sub [1,1,1,1,1,1,1,1,0,0,0,1]=B5 at p3 ⊢
  have p2':∀(C:IC)(K:fP)(t:List IV)(Q:aU)(dv:IV),Q[0]?=some (aI [p.ns.v,p.az.v,p.fs.v])->MV aL 1 d Q dv ds->aN 127 t [(2,.ptrM d 0 0),(5,.ptrM d 2 0),(7,dv)]->(∀ t' J lv,cg Pt.c 2 d Q.length J lv to->aN 127 t' [(2,.ptrM d 0 0),(5,.ptrM d 2 0),(7,dv),(9,lv)]->Ex (aM aR S m) d ah m C K ⟨t',Q++J⟩)->Ex (aM aR S m) d ah m (.seq (i209.body.sub [1,1,1,1,1,0]) (.seq (i209.body.sub [1,1,1,1,1,1,0]) C)) K ⟨t,Q⟩:=fun C K t Q dv pV hD af hK=>JB (p2 _ t Q dv pV hD af hK)
  clear p2
  generalize i209.body.sub [1,1,1,1,1,0]=B2 at p2' ⊢
  generalize i209.body.sub [1,1,1,1,1,1,0]=B3 at p2' ⊢
  simp only[i209,IC.sub,V0,Xa,Xb,Xe,af,c0,bg]
  refine p1 _ _ _ _ (by simp only[V0,Xa,Xe,af]) fun t1 J1 dv Fm ht1=>?_
  clear af
  rw[yt]
  have hQD:MV aL 1 d (aI [p.ns.v,p.az.v,p.fs.v]::.free::aI [aG aH nd.id,aG aH nd.at'.x,aG aH nd.at'.y]::J1) dv ds:=zfh (Pre:=[aI [p.ns.v,p.az.v,p.fs.v],.free,aI [aG aH nd.id,aG aH nd.at'.x,aG aH nd.at'.y]]) Fm
  have pV:(aO.cells [p.ns.v,p.az.v,p.fs.v]::.free::aI [aG aH nd.id,aG aH nd.at'.x,aG aH nd.at'.y]::J1)[0]?=some (aI [p.ns.v,p.az.v,p.fs.v]):=rfl
  have Qh:(aO.cells [p.ns.v,p.az.v,p.fs.v]::.free::aI [aG aH nd.id,aG aH nd.at'.x,aG aH nd.at'.y]::J1)[2]?=some (aI [aG aH nd.id,aG aH nd.at'.x,aG aH nd.at'.y]):=rfl
  generalize aO.cells [p.ns.v,p.az.v,p.fs.v]::.free::aI [aG aH nd.id,aG aH nd.at'.x,aG aH nd.at'.y]::J1=Q1 at hQD pV Qh ⊢
  refine p2' _ _ t1 Q1 dv pV hQD ht1 fun t2 J2 tv dX ht2=>?_
  have ad9:=hQD.more J2
  have hQT:=zfh dX
  have afu:=OM Qh J2
  generalize Q1++J2=Q at ad9 hQT afu ⊢
  clear hQD pV Qh dX Fm ht1
  simp only[zb,zc]at ht2
  simp only[V0]
  refine ze (fun jj st=>∃(J:aU)(lv:IV)(xs:List Int),to.length-xs.length<=jj/\xs.length<=to.length/\kD ds rk xs.length=some xs/\cg aL 1 d Q.length J lv xs/\st.aa=Q++J/\aN 127 st.t [(5,.ptrM d 2 0),(7,dv),(9,tv),(11,lv)]) to.length Ω ⟨[],.nilsl,[],Ψ,Ψ,rfl,.inl ⟨rfl,rfl⟩,Ψ,by simp only[V0,Xa,Xe,ht2]⟩ ?_
  clear ht2
  rintro jj ⟨t,aa⟩ KA ⟨J,lv,xs,hjj,hxl,hsel,hO,ho,af⟩ bV cS dA
  dsimp only at ho af
  subst ho
  simp only[zb,zc]at af
  have sG:=fun{D:Nat}{ah:bR}{aK aa:aU}=>ad9.len (D:=D) (ah:=ah) (aK:=aK) (aa:=aa)
  rw[hdl]at sG
  have hlx:=fun{D:Nat}{ah:bR}{aK aa:aU}=>(zfh hO).len (D:=D) (ah:=ah) (aK:=aK) (aa:=aa)
  by_cases h:xs.length<to.length
  ·simp only[V0,Xa,Xe,af,hlx,sG,h]
   refine p3 _ _ Q J tv dv lv xs h afu ad9 hQT hO (by simp only[V0,Xe,af]) (fun t' J' dR z hpk wG ht'=>?_) (fun t' O' hpk ht'=>?_)
   ·refine bV _ (to.length-(xs.length+1)) Ω ⟨J',dR,xs++[z],by rw[eR];simp,by rw[eR];simp;omega,?_,wG,rfl,ht'⟩
    rw[eR]
    simp only[cu,dw,kD,hsel,hpk,jG,gH]
   ·simp only[zb,zc]at ht'
    refine dA _ ?_
    simp only[V0,ht']
    have hnone:kD ds rk ds.length=none:=by
     have h1:kD ds rk (xs.length+1)=none:=by simp only[kD,hsel,hpk,jG,NC]
     have:=zfi h1 (ds.length-(xs.length+1));rwa [show xs.length+1+(ds.length-(xs.length+1))=ds.length by omega]at this
    refine⟨_,rfl,?_⟩
    have he:bD p node=[]:=by rw[hA];unfold Ak;rw[hnone];rfl
    have:(eX zf (bD p node) hlim).v=.nilsl:=by
     have:∀(l:List Int)(h:l.length<9223372036854775808),l=[]->(eX zf l h).v=.nilsl:=by rintro l h rfl;rfl
     exact this _ _ he
    rw[this]
    exact Zb m Ω d _
  ·simp only[V0,Xa,Xe,af,hlx,sG,h]
   refine cS _ _ ?_
   simp only[V0,Xa,Xe,af]
   refine⟨_,rfl,?_⟩
   have he:bD p node=xs:=by rw[hA];unfold Ak;rw[show ds.length=xs.length by omega,hsel];rfl
   have:∀(l:List Int)(h:l.length<9223372036854775808),l=xs->freeze m d (Q++J) lv=some (eX zf l h).v:=by rintro l hh rfl;exact yK zf yF Ω hh hO
   exact this _ _ he
end
def aY(p:Pn):List Int:=(p.az.l.reverse.map fun a=>jg a.id)++p.az.l.map Ac.id
section
variable {S:cZ}
theorem RO(hS:bN S)(p:Pn)(ha:p.az.l.length<=100000):∃ q:aS 1 aL,q.l=aY p/\aP S (p.az.l.length+10) 165 [.agg p.c] q.v:=by
 have hlim:(aY p).length<9223372036854775808:=by unfold aY;simp;omega
 refine⟨eX zf (aY p) hlim,yg ..,sX i165 hS (p.az.l.length+9) fun m hm d ah t af=>?_⟩;simp only[slotsOf,zb,zc,i165,Pn.c]at af;have hw0:aT .i64 (((p.az.l.length:Nat):Int)-1)=((p.az.l.length:Nat):Int)-1:=zD rfl Ω Ω;simp only[i165,V0,Xa,Xe,af,hw0];refine ze (fun jj st=>∃(i:Nat)(J:aU)(lv:IV),p.az.l.length-i<=jj/\i<=p.az.l.length/\cg aL 1 d 1 J lv ((p.az.l.reverse.take i).map fun a=>jg a.id)/\st.aa=aI [p.ns.v,p.az.v,p.fs.v]::J/\aN 41 st.t [(1,.ptrM d 0 0),(3,lv),(4,aG aH (((p.az.l.length:Nat):Int)-1-(i:Int)))]) p.az.l.length Ω ⟨0,[],.nilsl,Ω,Ω,.inl ⟨rfl,rfl⟩,rfl,by simp only[V0,Xa,Xe,af,eU,zoi]⟩ ?_;clear af;rintro jj ⟨t,aa⟩ KA ⟨i,J,lv,hjj,hi,hO,ho,af⟩ bV cS dA;dsimp only at ho af;subst ho;simp only[zb,zc]at af;by_cases h:i<p.az.l.length
 ·have hk:p.az.l.length-1-i<p.az.l.length:=Ω;obtain⟨x,hx⟩:=gx (l:=p.az.l) (i:=p.az.l.length-1-i) hk;have Wp:p.az.l.reverse[i]?=some x:=by rw[XN h];exact hx
  have hrd:bM (p.az.l.flatMap Ac.c) ((p.az.l.length-1-i)*6) 1=some [aG aH x.id]:=(zd Ac.aZ 0 1 hx Ω).trans rfl;have e1:((p.az.l.length:Nat):Int)-1-(i:Int)=((p.az.l.length-1-i:Nat):Int):=Ω;have hge:(0<=((p.az.l.length-1-i:Nat):Int))=True:=eq_true Ω;have hw:aT .i64 (((p.az.l.length-1-i:Nat):Int)-1)=((p.az.l.length:Nat):Int)-1-((i+1:Nat):Int):=zD Ω Ω Ω;have au:((p.az.l.reverse.take i).map fun a=>jg a.id).length=i:=by rw[ig,k8,uF,qu Ω]
  obtain⟨e,dR,J2,b9,dX⟩:=zM (Pre:=[aI [p.ns.v,p.az.v,p.fs.v]]) (n0:=J.length+1) (slot:=0) (k:=0) (ah:=ah) (R:=[.free]) zf hO (ys:=[jg x.id]) Ψ (by simp only[au,cu,dw];omega) (by simp only[cu,dw];omega) rfl rfl;simp only[gQ,gM,fJ,lz,aL,zg,cu,dw,iL,fO,jg]at b9;rw[show((p.az.l.reverse.take i).map fun a=>jg a.id)++[jg x.id]=(p.az.l.reverse.take (i+1)).map fun a=>jg a.id by rw[zt Wp,E6];rfl]at dX;rw[e1]at af;simp only[V0,Xa,Xe,mM,za p.az hk,rep,zh,zk,zo,zu, *];exact bV _ (p.az.l.length-(i+1)) Ω ⟨i+1,J2,dR,Ω,Ω,dX,rfl,by simp only[V0,Xa,Xe,af]⟩
 ·obtain rfl:i=p.az.l.length:=Ω;have hge:(0<=((p.az.l.length:Nat):Int)-1-((p.az.l.length:Nat):Int))=False:=eq_false Ω;simp only[V0,Xa,af,mM,hge];refine cS _ _ ?_;have e:p.az.l.reverse.take p.az.l.length=p.az.l.reverse:=gj Ψ;rw[e]at hO;clear bV cS;simp only[V0];refine ze (fun jj st=>∃(i:Nat)(J:aU)(lv:IV),p.az.l.length-i<=jj/\i<=p.az.l.length/\cg aL 1 d 1 J lv ((p.az.l.reverse.map fun a=>jg a.id)++(p.az.l.take i).map Ac.id)/\st.aa=aI [p.ns.v,p.az.v,p.fs.v]::J/\aN 41 st.t [(1,.ptrM d 0 0),(3,lv),(5,iv i)]) p.az.l.length Ω ⟨0,J,lv,Ω,Ω,by simpa using hO,rfl,by simp only[V0,Xa,Xe,af,eU]⟩ ?_;clear af hO dA lv J t;rintro jj ⟨t,aa⟩ KB ⟨i,J,lv,hjj,hi,hO,ho,af⟩ jo lX mE;dsimp only at ho af;subst ho;simp only[V3]at af;by_cases h:i<p.az.l.length
  ·obtain⟨x,hx⟩:=gx (l:=p.az.l) (i:=i) h;have hrd:bM (p.az.l.flatMap Ac.c) (i*6) 1=some [aG aH x.id]:=(zd Ac.aZ 0 1 hx Ω).trans rfl;have hw:=zq i;have au:((p.az.l.reverse.map fun a=>jg a.id)++(p.az.l.take i).map Ac.id).length=p.az.l.length+i:=by rw[eR,ig,ig,k8,uF,qu Ω]
   obtain⟨e,dR,J2,b9,dX⟩:=zM (Pre:=[aI [p.ns.v,p.az.v,p.fs.v]]) (n0:=J.length+1) (slot:=0) (k:=0) (ah:=ah) (R:=[.free]) zf hO (ys:=[x.id]) Ψ (by simp only[au,cu,dw];omega) (by simp only[cu,dw];omega) rfl rfl;simp only[gQ,gM,fJ,lz,aL,zg,cu,dw,iL,fO]at b9;rw[kR,show(p.az.l.take i).map Ac.id++[x.id]=(p.az.l.take (i+1)).map Ac.id by rw[zt hx,E6];rfl]at dX;simp only[V0,Xa,Xe,za p.az h,rep,zh,zk,zo,zu, *];exact jo _ (p.az.l.length-(i+1)) Ω ⟨i+1,J2,dR,Ω,Ω,dX,rfl,by simp only[V0,Xa,Xe,af]⟩
  ·simp only[V0,Xa,Xe,af,h];refine lX _ _ ?_;rw[gj Ω]at hO;simp only[V0,Xa,Xe,af];exact⟨_,rfl,yK (Pre:=[_]) zf yF Ω hlim hO⟩
theorem aby(hS:bN S)(xs:List Int)(hxl:xs.length<=1000000000)(n:Int){m d:Nat}{ah:bR}{aK aa:aU}{id:Nat}{lv:IV}(hm:xs.length+4<=m)(h:RdI (d+1) (fun l=>if l=d then aK else ah l) lv xs):aM aR S m d ah aK aa id 166 [lv,aG aH n]=some (.r,.bool (xs.contains n),aa):=by
 obtain⟨m,rfl⟩:=me m 2;have main:∃ r,aM aR S (m+1+1) d ah aK aa id 166 [lv,aG aH n]=some r/\r=(.r,.bool (xs.contains n),aa):=by
  refine yz (i:=i166) (ns hS) rfl Δ (lb rfl) fun t af=>?_;simp only[V2,i166]at af;generalize(fun l=>if l=d then aK else ah l:bR)=cQ at h ⊢
  have hlen:∀ d aa aK,jL d cQ aK aa 1 lv=some (.p,aG aH (xs.length:Nat),aa):=fun d aa aK=>by
   rcases h with⟨q,rfl,rfl⟩|⟨l,b,cap,tg,_,rfl,_⟩
   ·exact yp q
   ·exact Zd
  simp only[i166,V0,seval];refine ze (fun jj st=>∃(i:Nat),xs.length-i<=jj/\i<=xs.length/\(xs.take i).contains n=false/\st.aa=[]/\aN 18 st.t [(0,lv),(1,aG aH n),(5,iv i)]) xs.length Ω ⟨0,Ω,Ω,Ψ,rfl,by simp only[V0,seval,af,eU]⟩ ?_;clear af;rintro jj ⟨t,bO⟩ KA ⟨i,hjj,hi,hc,ho,af⟩ bV cS dA;dsimp only at ho af;subst ho;simp only[V3]at af;by_cases h2:i<xs.length
  ·obtain⟨x,hx⟩:=gx (l:=xs) (i:=i) h2;have kM:bM (xs.flatMap aL) (i*1) 1=some [aG aH x]:=zd zf 0 1 hx Ω;have hw:=zq i;cases hb:x==n
   ·have mF:(xs.take (i+1)).contains n=false:=by rw[zt hx,yS,hc,hb];rfl
    rcases h with⟨q0,rfl,rfl⟩|⟨l,b,cap,tg,hl,rfl,oq⟩
    ·simp only[V0,seval,za q0 h2,hb, *];exact bV _ (q0.l.length-(i+1)) Ω ⟨i+1,Ω,Ω,mF,rfl,cD⟩
    ·have om:¬ l=d+1:=Ω;simp only[V0,seval,zm,hb, *];exact bV _ (xs.length-(i+1)) Ω ⟨i+1,Ω,Ω,mF,rfl,cD⟩
   ·rcases h with⟨q0,rfl,rfl⟩|⟨l,b,cap,tg,hl,rfl,oq⟩
    ·simp only[V0,seval,af,hlen,h2,za q0 h2,kM,hb];refine dA _ ?_;simp only[V0,seval,af];exact⟨.inr trivial,_,_,rfl,rfl,by rw[yu hx hb]⟩
    ·have om:¬ l=d+1:=Ω;simp only[V0,seval,zm,hb, *];refine dA _ ?_;simp only[V0,seval,af];exact⟨.inr trivial,_,_,rfl,rfl,by rw[yu hx hb]⟩
  ·simp only[V0,seval,af,hlen,h2];refine cS _ _ ?_;rw[gj Ω]at hc;simp only[V0,seval,af];exact⟨.inr trivial,_,_,rfl,rfl,by rw[hc]⟩
 obtain⟨r,h1,rfl⟩:=main;exact h1
end
def nV(l:List Int):List Int:=(l.drop 1++l.take 1).map jg
theorem zb1(l:List Int):(nV l).length=l.length:=by unfold nV;rw[ig,eR,tD,k8];omega
theorem zfu{l:List Int}{k:Nat}(hk:k<l.length){x:Int}(hx:l[(k+1)%l.length]?=some x):(nV l)[k]?=some (jg x):=by
 unfold nV;rw[k9];by_cases h:k+1<l.length
 ·rw[ND h]at hx;rw[gT (by rw[tD];omega),Sz,qv,hx];rfl
 ·have e:k+1=l.length:=Ω;rw[e,Nat.mod_self]at hx;rw[jd (by rw[tD];omega),tD,show k-(l.length-1)=0 by omega];cases l with
  |nil=>simp at hk
  |cons y l=>simp only[zl6,xI,qU]at hx ⊢;rw[hx];rfl
def bS(p:Pn):List Int:=p.ns.l.flatMap fun n=>nV (bD p n.id)
def bW(p:Pn):List Int:=p.ns.l.flatMap fun n=>bD p n.id
section
variable {S:cZ}
theorem VA(hS:bN S)(p:Pn)(q:aS 1 aL)(pU:q.l.length<=300000){m d:Nat}{ah:bR}(hm:q.l.length+10<=m){K:fP}(t:List IV)(i:Nat)(B0:Nat->Nat)(J0:aU)(sP mv0:IV)(xs ys:List Int)(h0:eC aL 1 d 1 B0 0 J0 sP xs)(h1:eC aL 1 d 1 B0 1 J0 mv0 ys)(hxl:xs.length<=100000000)(Nb:ys.length<=100000000)(af:aN 51 t [(1,.ptrM d 0 0),(4,sP),(5,mv0),(6,iv i),(7,q.v)])
  (hK:∀ t' B J lv mv,eC aL 1 d 1 B 0 J lv (xs++nV q.l)->eC aL 1 d 1 B 1 J mv (ys++q.l)->aN 51 t' [(1,.ptrM d 0 0),(4,lv),(5,mv),(6,iv i)]->K .normal ⟨t',aI [p.ns.v,p.az.v,p.fs.v]::J⟩) :
  Ex (aM aR S m) d ah m (i164.body.sub [1,1,0,1,0,0,1,0,0,1]) K ⟨t,aI [p.ns.v,p.az.v,p.fs.v]::J0⟩:=by
 simp only[V3]at af
 simp only[i164,IC.sub,V0]
 refine ze (fun jj st=>∃(k:Nat)(B:Nat->Nat)(J:aU)(lv mv:IV),q.l.length-k<=jj/\k<=q.l.length/\eC aL 1 d 1 B 0 J lv (xs++(nV q.l).take k)/\eC aL 1 d 1 B 1 J mv (ys++q.l.take k)/\st.aa=aI [p.ns.v,p.az.v,p.fs.v]::J/\aN 51 st.t [(1,.ptrM d 0 0),(4,lv),(5,mv),(6,iv i),(7,q.v),(8,iv k)]) q.l.length Ω ⟨0,B0,J0,sP,mv0,Ω,Ω,by simpa using h0,by simpa using h1,rfl,by simp only[V0,Xa,Xe,af,eU]⟩ ?_
 clear af h0 h1
 rintro jj ⟨t,aa⟩ KA ⟨k,B,J,lv,mv,hjj,hk,h0,h1,ho,af⟩ bV cS dA
 dsimp only at ho af
 subst ho
 simp only[V3]at af
 by_cases h:k<q.l.length
 rotate_left
 ·simp only[V0,Xa,Xe,af,h]
  refine cS _ _ ?_
  have e1:(nV q.l).take k=nV q.l:=gj (by rw[zb1];omega)
  have e2:q.l.take k=q.l:=gj Ω
  rw[e1]at h0
  rw[e2]at h1
  simp only[V0]
  exact hK _ B J lv mv h0 h1 (by simp only[V0,Xe,af])
 obtain⟨x,hx⟩:=gx (l:=q.l) (i:=k) h
 have hmod:(k+1)%q.l.length<q.l.length:=SM _ Ω
 obtain⟨y,hy⟩:=gx (l:=q.l) (i:=(k+1)%q.l.length) hmod
 have agx:=zfu h hy
 have kM:bM (q.l.flatMap aL) (k*1) 1=some [aG aH x]:=zd zf 0 1 hx Ω
 have va:bM (q.l.flatMap aL) ((k+1)%q.l.length*1) 1=some [aG aH y]:=zd zf 0 1 hy Ω
 have hw:=zq k
 have om:(xs++(nV q.l).take k).length=xs.length+k:=by rw[eR,k8,zb1,qu Ω]
 have jD:(ys++q.l.take k).length=ys.length+k:=by rw[eR,k8,qu Ω]
 obtain⟨e1,dR,J1,ha1,_,Fm,hJ1,PX⟩:=yB (k0:=1) (n0:=J.length+1) (slot:=0) (k:=0) (Pre:=[aI [p.ns.v,p.az.v,p.fs.v]]) (R:=[.free]) zf rfl h0 (ys:=[jg y]) Ψ (by simp only[om,cu,dw];omega) Ω rfl rfl
 have h1':=PX Δ h1
 obtain⟨e2,mv',J2,ha2,_,dX,hJ2,PW⟩:=yB (k0:=1) (n0:=J1.length+1) (slot:=0) (k:=0) (Pre:=[aI [p.ns.v,p.az.v,p.fs.v]]) (R:=[.free]) zf rfl h1' (ys:=[x]) Ψ (by simp only[jD,cu,dw];omega) Ω rfl rfl
 have afv:=PW Δ Fm
 have hlk:∀(aa:aU)(n:Nat)(j:Nat)(x:aO),j<n->aa[j]?=some x->look d ah aa d j=some x:=fun aa n j x _ hx=>by unfold look;rw[bt rfl];exact hx
 have ap1:=ha1 _ (hlk _ _)
 have ap2:=ha2 _ (hlk _ _)
 simp only[gQ,gM,fJ,lz,aL,zg,cu,dw,iL,fO,jg]at ap1 ap2
 rw[kR,←zt agx]at afv
 rw[kR,←zt hx]at dX
 have e3:((q.l.length:Int)=0)=False:=eq_false Ω
 have e4:Int.tmod ((k+1:Nat):Int) (q.l.length:Int)=(((k+1)%q.l.length:Nat):Int):=(Int.ofNat_tmod _ _).symm
 generalize(k+1)%q.l.length=j at hmod hy va e4
 simp only[V0,Xa,Xe,af,h,za q h,za q hmod,hw,e3,e4,kM,va,rep,zh,zk,zo,zu,ap1,ap2]
 exact bV _ (q.l.length-(k+1)) Ω ⟨k+1,_,J2,dR,mv',Ω,Ω,afv,dX,rfl,by simp only[V0,Xa,Xe,af]⟩
theorem Bd{p:Pn}(l:List Nd):(l.flatMap fun n=>bD p n.id).length<=l.length*(2*p.az.l.length):=by
 induction l with
 |nil=>simp
 |cons n l ih =>
  have:=YT p n.id
  rw[fJ,eR,cu,NB]
  omega
theorem zfv{p:Pn}(l:List Nd):(l.flatMap fun n=>nV (bD p n.id)).length=(l.flatMap fun n=>bD p n.id).length:=by
 induction l with
 |nil=>simp
 |cons n l ih=>rw[fJ,fJ,eR,eR,ih,zb1]
theorem BI(hS:bN S)(p:Pn)(iz:bQ p)(ha:p.az.l.length<=1000)(hn:p.ns.l.length<=1000)(hok:∀ n∈p.ns.l,∀ z∈bB p n.id,iw p z):∃ q1 q2:aS 1 aL,q1.l=bS p/\q2.l=bW p/\∃ N,aP S N 164 [.agg p.c] (.tuple [q1.v,q2.v]):=by
 have hfn:(bW p).length<=2000000:=by have:=Bd (p:=p) p.ns.l;have h2:=XF hn (show 2*p.az.l.length<=2000 by omega);unfold bW;omega
 have Jv:(bS p).length<=2000000:=by unfold bS;rw[zfv];exact hfn
 have om:(bS p).length<9223372036854775808:=Ω;have jD:(bW p).length<9223372036854775808:=Ω;obtain⟨N1,h1⟩:∃ N,∀ n∈p.ns.l,∃ q:aS 1 aL,q.l=bD p n.id/\aP S N 209 [.agg p.c,aG aH n.id] q.v:=Yz (P:=fun(n:Nd) N=>∃ q:aS 1 aL,q.l=bD p n.id/\aP S N 209 [.agg p.c,aG aH n.id] q.v) (fun a n m hnm ⟨q,hq,h⟩=>⟨q,hq,fun m' hm'=>h m' Ω⟩) fun n hn=>by obtain⟨q,hq,N,h⟩:=MN hS p iz Ω n.id (hok n hn);exact⟨N,q,hq,h⟩
 refine⟨eX zf (bS p) om,eX zf (bW p) jD,yg ..,yg ..,N1+p.ns.l.length+3001,sX i164 hS (N1+p.ns.l.length+3000) fun m hm d ah t af=>?_⟩;simp only[slotsOf,zb,zc,i164,Pn.c]at af;have pf:=fun(q:aS 1 aL)(pU:q.l.length<=2000) K t i B0 J0 sP mv0 xs ys h0 h1 hxl Nb af hK=>@VA S hS p q Ω m d ah Ω K t i B0 J0 sP mv0 xs ys h0 h1 hxl Nb af hK;rw[show i164.body=.seq (i164.body.sub [0]) (.seq (i164.body.sub [1,0]) (.seq (.seq (i164.body.sub [1,1,0,0]) (.block 0 (.loop (.seq (.seq (i164.body.sub [1,1,0,1,0,0,0,0]) (i164.body.sub [1,1,0,1,0,0,0,1])) (.seq (.block 1 (.seq (i164.body.sub [1,1,0,1,0,0,1,0,0,0]) (i164.body.sub [1,1,0,1,0,0,1,0,0,1]))) (i164.body.sub [1,1,0,1,0,0,1,1])))))) (.seq (i164.body.sub [1,1,1,0]) .ret)))from rfl];generalize i164.body.sub [1,1,0,1,0,0,1,0,0,1]=T at pf ⊢;simp only[i164,IC.sub,V0,af];refine ze (fun jj st=>∃(i:Nat)(B:Nat->Nat)(J:aU)(lv mv:IV),p.ns.l.length-i<=jj/\i<=p.ns.l.length/\eC aL 1 d 1 B 0 J lv ((p.ns.l.take i).flatMap fun n=>nV (bD p n.id))/\eC aL 1 d 1 B 1 J mv ((p.ns.l.take i).flatMap fun n=>bD p n.id)/\st.aa=aI [p.ns.v,p.az.v,p.fs.v]::J/\aN 51 st.t [(1,.ptrM d 0 0),(4,lv),(5,mv),(6,iv i)]) p.ns.l.length Ω ⟨0,fun _=>0,[],.nilsl,.nilsl,Ω,Ω,.inl ⟨rfl,rfl⟩,.inl ⟨rfl,rfl⟩,rfl,by simp only[V0,Xa,Xe,af,eU]⟩ ?_;clear af;rintro jj ⟨t,aa⟩ KA ⟨i,B,J,lv,mv,hjj,hi,Fm,dX,ho,af⟩ bV cS dA;dsimp only at ho af;subst ho;simp only[V3]at af;by_cases h:i<p.ns.l.length;rotate_left
 ·simp only[V0,Xa,Xe,af,h];refine cS _ _ ?_;rw[gj Ω]at Fm dX;obtain⟨m,rfl⟩:=me m 3;have f1:freeze (m+2) d (aI [p.ns.v,p.az.v,p.fs.v]::J) lv=some (eX zf (bS p) om).v:=ZW (Pre:=[_]) zf rfl (fun a x hx m' hm' _ _=>yF a x hx m' Ω _ _) om Fm;have f2:freeze (m+2) d (aI [p.ns.v,p.az.v,p.fs.v]::J) mv=some (eX zf (bW p) jD).v:=ZW (Pre:=[_]) zf rfl (fun a x hx m' hm' _ _=>yF a x hx m' Ω _ _) jD dX;simp only[V0,Xa,Xe,af];refine⟨_,rfl,?_⟩;show([lv,mv].mapM (freeze (m+2) d (aI [p.ns.v,p.az.v,p.fs.v]::J))).map IV.tuple=_;rw[yI f1 (yI f2 zck)];rfl
 have hx:p.ns.l[i]?=some p.ns.l[i]:=cK h;obtain⟨q,hq,cq⟩:=h1 _ (gU h);generalize p.ns.l[i]=x at hx hq cq;have cq:=cq m Ω;simp only[Pn.c]at cq;have pU:q.l.length<=2000:=by rw[hq];have:=YT p x.id;omega
 have hrd:bM (p.ns.l.flatMap Nd.c) (i*3) 1=some [aG aH x.id]:=(zd Nd.aZ 0 1 hx Ω).trans rfl;have hw:=zq i;have b1:=Bd (p:=p) (p.ns.l.take i);have b2:=zfv (p:=p) (p.ns.l.take i);rw[k8,qu Ω]at b1;have b3:=XF (show i<=1000 by omega) (show 2*p.az.l.length<=2000 by omega);simp only[V0,Xa,Xe,af,h,za p.ns h,hrd,cq];refine pf q Ω _ _ i B _ lv mv _ _ (Fm.more _) (dX.more _) (by rw[b2];omega) Ω (by simp only[V0,Xa,Xe,af]) fun t' B' J' dR mv' g1 g2 ht'=>?_;clear af;simp only[V3]at ht';simp only[V0,Xa,ht',hw];refine bV _ (p.ns.l.length-(i+1)) Ω ⟨i+1,B',J',dR,mv',Ω,Ω,?_,?_,rfl,by simp only[V0,Xa,Xe,ht']⟩
 ·rw[zt hx,B6,fJ,lz,iL,←hq];exact g1
 ·rw[zt hx,B6,fJ,lz,iL,←hq];exact g2
end
def u5(ds nx:List Int)(z:Int):Nat->Int
 |0=>0
 |i+1=>match ds[i]?,nx[i]? with
  |some a,some b=>if (a==z)=true then b else u5 ds nx z i
  |_,_=>u5 ds nx z i
def IX(ds nx:List Int)(z:Int):Int:=u5 ds nx z ds.length
def fc(l:List Int):Int:=(l[l.length-1]?).getD 0
def jU(f:Int->Int)(bE:Int):Nat->List Int->List Int
 |0,l=>l
 |k+1,l=>if (f (fc l)==bE)=true then l else jU f bE k (l++[f (fc l)])
def bZ(ds nx:List Int)(bE:Int):List Int:=jU (IX ds nx) bE ds.length [bE]
theorem Y7{f:Int->Int}{bE:Int}:∀(k:Nat)(l:List Int),l.length<=(jU f bE k l).length/\(jU f bE k l).length<=l.length+k
 |0,l=>⟨dz _,by simp[jU]⟩
 |k+1,l=>by
  unfold jU;split
  ·omega
  ·have:=Y7 (f:=f) (bE:=bE) k (l++[f (fc l)]);rw[eR,cu,dw]at this;omega
section
variable {S:cZ}
theorem RP(hS:bN S)(q1 q2:aS 1 aL)(hq:q2.l.length=q1.l.length)(hn:q1.l.length<=10000000)(bE:Int):∃ q:aS 1 aL,q.l=bZ q1.l q2.l bE/\aP S (q1.l.length+20) 167 [q1.v,q2.v,aG aH bE] q.v:=by
 have lY:=Y7 (f:=IX q1.l q2.l) (bE:=bE) q1.l.length [bE];have hlim:(bZ q1.l q2.l bE).length<9223372036854775808:=by unfold bZ;rw[cu,dw]at lY;omega
 generalize hN:q1.l.length=n at *;refine⟨iV zf (bZ q1.l q2.l bE) (bZ q1.l q2.l bE).length (decide (bZ q1.l q2.l bE=[bE])) rfl hlim,rfl,sX i167 hS (n+19) fun m hm d ah t af=>?_⟩;simp only[V2,Xb,i167]at af;have P6:∀{D ah aK aa},jL D ah aK aa 1 q1.v=some (.p,aG aH (n:Nat),aa):=fun{D ah aK aa}=>by rw[←hN];exact yp q1
 simp only[i167,V0,Xa,Xe,af,Qs];refine ze (fun jj st=>∃(l:List Int)(lv:IV),n+1-l.length<=jj/\l≠[]/\l.length<=n+1/\jU (IX q1.l q2.l) bE (n+1-l.length) l=bZ q1.l q2.l bE/\((l=[bE]/\lv=.slC [aG aH bE] 1 1 true)∨(2<=l.length/\cg aL 1 d 0 st.aa lv l))/\aN 47 st.t [(0,q1.v),(1,q2.v),(2,aG aH bE),(7,lv)]) n Ω ⟨[bE],_,Ψ,Ψ,Ψ,by rw[cu,dw,fO,zm5,←hN];rfl,.inl ⟨rfl,rfl⟩,by simp only[V0,Xa,Xe,reduceCtorEq,af]⟩ ?_;clear af;rintro jj ⟨t,aa⟩ KA ⟨l,lv,hjj,hne,Nh,l5,hlv,af⟩ bV cS dA;dsimp only at hlv;simp only[zb,zc]at af;have hlp:0<l.length:=XK.2 hne;have WC:∀{D ah aK aa},jL D ah aK aa 1 lv=some (.p,aG aH (l.length:Nat),aa):=fun{D ah aK aa}=>by
  rcases hlv with⟨rfl,rfl⟩|⟨_,h⟩
  ·exact ze1
  ·exact(zfh (Pre:=[]) h).len
 have frz:∀(aX R:aU),aX=aa++R->l=bZ q1.l q2.l bE->freeze m d aX lv=some (iV zf (bZ q1.l q2.l bE) (bZ q1.l q2.l bE).length (decide (bZ q1.l q2.l bE=[bE])) rfl hlim).v:=fun aX R hoR hl=>by
  subst hoR;have gen:∀(x:List Int)(hx:x.length<9223372036854775808),x=l->freeze m d (aa++R) lv=some (iV zf x x.length (decide (x=[bE])) rfl hx).v:=by
   rintro x hx rfl;rcases hlv with⟨rfl,rfl⟩|⟨h2,h⟩
   ·obtain⟨m,rfl⟩:=me m 2;rw[decide_eq_true rfl];rfl
   ·have ak:decide (x=[bE])=false:=decide_eq_false fun e=>by rw[e]at h2;simp at h2
    have oh:x≠[]:=hne;have h3:=yK (Pre:=[]) (m:=m) zf yF Ω hx (h.more R);rw[gM]at h3;rw[h3,ak];cases x with
    |nil=>exact absurd rfl oh
    |cons a b=>rfl
  exact gen _ _ hl.symm
 by_cases h:l.length<=n;rotate_left
 ·have hle:(((l.length:Nat):Int)<=((n:Nat):Int))=False:=eq_false Ω;simp only[V0,Xa,Xe,reduceCtorEq,af,WC,P6,hle];refine cS _ _ ?_;rw[show n+1-l.length=0 by omega]at l5;simp only[V0,Xa,Xe,af];exact⟨_,rfl,frz _ [] Ψ l5⟩
 have hle:(((l.length:Nat):Int)<=((n:Nat):Int))=True:=eq_true Ω;have qn:l[l.length-1]?=some (fc l):=by unfold fc;rw[cK Ω];rfl
 have hstep:n+1-l.length=(n-l.length)+1:=Ω;rw[hstep]at l5;simp only[V0,Xa,Xe,reduceCtorEq,af,WC,P6,hle];refine ze (fun jj st=>∃(i:Nat),n-i<=jj/\i<=n/\st.aa=aa/\aN 47 st.t [(0,q1.v),(1,q2.v),(2,aG aH bE),(7,lv),(8,aG aH (u5 q1.l q2.l (fc l) i)),(9,iv i)]) n Ω ⟨0,Ω,Ω,rfl,by simp only[V0,Xa,Xe,reduceCtorEq,af,eU];rfl⟩ ?_;clear af;rintro jj2 ⟨t,sO⟩ KB ⟨i,hjj2,hi,ho,af⟩ jo lX mE;dsimp only at ho af;subst ho;simp only[V3]at af;by_cases h2:i<n
 ·have hi1:i<q1.l.length:=Ω;have hi2:i<q2.l.length:=Ω;obtain⟨x,hx⟩:=gx (l:=q1.l) (i:=i) hi1;obtain⟨y,hy⟩:=gx (l:=q2.l) (i:=i) hi2;have kM:bM (q1.l.flatMap aL) (i*1) 1=some [aG aH x]:=zd zf 0 1 hx Ω;have va:bM (q2.l.flatMap aL) (i*1) 1=some [aG aH y]:=zd zf 0 1 hy Ω;have hw:=zq i;have hwl:aT .i64 (((l.length:Nat):Int)-1)=((l.length-1:Nat):Int):=we;have oh:u5 q1.l q2.l (fc l) (i+1)=if (x==fc l)=true then y else u5 q1.l q2.l (fc l) i:=by
   conv=>lhs;unfold u5
   rw[hx,hy]
  rcases hlv with⟨rfl,rfl⟩|⟨jD,hO⟩
  ·have hwl:aT .i64 (((1:Nat):Int)-1)=((0:Nat):Int):=rfl;have hil:∀ aa,dD aa 1 (.slC [aG aH bE] 1 1 true) (aG aH ((0:Nat):Int))=some (.p,.ptrC [aG aH bE] 0,aa):=fun aa=>zA (i:=0) Δ;have hrl:bM [aG aH bE] 0 1=some [aG aH (fc [bE])]:=rfl;cases g:x==fc [bE]
   ·rw[g,bC Δ]at oh;simp only[V0,Xa,Xe,reduceCtorEq,za q1 hi1, *];exact jo _ (n-(i+1)) Ω ⟨i+1,Ω,Ω,rfl,by simp only[V0,Xa,Xe,reduceCtorEq,af,oh]⟩
   ·rw[g,bt rfl]at oh;simp only[V0,Xa,Xe,reduceCtorEq,za q1 hi1,za q2 hi2, *];exact jo _ (n-(i+1)) Ω ⟨i+1,Ω,Ω,rfl,by simp only[V0,Xa,Xe,reduceCtorEq,af,oh]⟩
  ·rcases id hO with⟨he,_⟩|⟨b,_,rfl,hb⟩
   ·exact absurd he hne
   have Nh:l.length-1<l.length:=Ω;have hrl:bM (l.flatMap aL) ((l.length-1)*1) 1=some [aG aH (fc l)]:=zd zf 0 1 qn Ω;have hho:∀ vis,(b7 vis sO.length sO)[b]?=some (aI (l.flatMap aL)):=fun vis=>by have:=Yt hb vis [];rwa [iL]at this
   cases g:x==fc l
   ·rw[g,bC Δ]at oh;simp only[V0,Xa,Xe,reduceCtorEq,za q1 hi1,zm, *];exact jo _ (n-(i+1)) Ω ⟨i+1,Ω,Ω,rfl,by simp only[V0,Xa,Xe,reduceCtorEq,af,oh]⟩
   ·rw[g,bt rfl]at oh;simp only[V0,Xa,Xe,reduceCtorEq,za q1 hi1,zm,za q2 hi2, *];exact jo _ (n-(i+1)) Ω ⟨i+1,Ω,Ω,rfl,by simp only[V0,Xa,Xe,reduceCtorEq,af,oh]⟩
 ·simp only[V0,Xa,Xe,reduceCtorEq,af,P6,h2];refine lX _ _ ?_;have hnr:u5 q1.l q2.l (fc l) i=IX q1.l q2.l (fc l):=by unfold IX;rw[hN,show i=n by omega]
  rw[hnr]at af;unfold jU at l5;cases g:IX q1.l q2.l (fc l)==bE
  ·rw[g,bC Δ]at l5;have ady:jU (IX q1.l q2.l) bE (n+1-(l++[IX q1.l q2.l (fc l)]).length) (l++[IX q1.l q2.l (fc l)])=bZ q1.l q2.l bE:=by rw[eR,cu,dw,show n+1-(l.length+(0+1))=n-l.length by omega];exact l5
   generalize IX q1.l q2.l (fc l)=z at af g ady;rcases hlv with⟨rfl,rfl⟩|⟨jD,hO⟩
   ·have b9:∀ lk,bh d sO.length lk (sO++[.free]) 1 (.slC [aG aH bE] 1 1 true) [aG aH z] 1 0=some (.a,.slM d sO.length 0 2 2 1 false,sO++[aI [aG aH bE,aG aH z]]):=fun lk=>by rw[BM Δ Δ rfl];unfold dU;rw[sY,jd (dz _),rM];simp only[qU,zi,Fc _ _ (dz _),rM,SP];rfl
    simp only[V0,Xa,Xe,af,g,rep,zh,zk,zo,zu,b9];refine bV _ (n+1-2) (by simp at hjj ⊢;omega) ⟨[bE]++[z],_,Ψ,Ψ,by simp;simp at h;omega,ady,.inr ⟨Ψ,.inr ⟨sO.length,Ψ,by rw[fO],by rw[jd (dz _),rM];rfl⟩⟩,by simp only[V0,Xa,Xb,Xe,reduceCtorEq,af]⟩
   ·obtain⟨e,dR,J2,b9,dX⟩:=zM (Pre:=[]) (n0:=sO.length) (slot:=0) (k:=0) (ah:=ah) (R:=[.free]) zf hO (ys:=[z]) Ψ (by simp only[cu,dw];omega) Ψ rfl rfl;simp only[gM,fJ,lz,aL,zg,cu,dw,iL,fO]at b9;simp only[V0,Xa,Xe,af,g,rep,zh,zk,zo,zu,b9];refine bV _ (n+1-(l.length+1)) Ω ⟨l++[z],dR,by rw[eR];simp,Ψ,by rw[eR,cu,dw];omega,ady,.inr ⟨by rw[eR];omega,dX⟩,by simp only[V0,Xa,Xe,reduceCtorEq,af]⟩
  ·rw[g,bt rfl]at l5;simp only[V0,Xa,Xe,af,g];refine dA _ ?_;simp only[V0,Xa,af];exact⟨_,rfl,frz _ [] Ψ l5⟩
end
def gX{β:Type}(f:Int->β)(g:β->List Int):List Int->List Int->List β->List β
 |[],_,o=>o
 |z::ds,met,o=>if met.contains z=true then gX f g ds met o else gX f g ds (met++g (f z)) (o++[f z])
theorem zcu{β:Type}(f:Int->β)(g:β->List Int):∀(ds met:List Int)(o:List β),(gX f g ds met o).map g=gX (fun z=>g (f z)) id ds met (o.map g)
 |[],_,_=>rfl
 |z::ds,met,o=>by
  unfold gX;split
  ·exact zcu f g ds met o
  ·rw[zcu f g ds _ _,E6];rfl
theorem yP{β:Type}(f:Int->β)(g:β->List Int):∀(ds met:List Int)(o:List β),(gX f g ds met o).length<=o.length+ds.length
 |[],_,_=>by simp[gX]
 |z::ds,met,o=>by
  unfold gX;split
  ·have:=yP f g ds met o;rw[cu];omega
  ·have:=yP f g ds (met++g (f z)) (o++[f z]);rw[eR,cu,dw]at this;rw[cu];omega
def aW(p:Pn):List (List Int):=gX (bZ (bS p) (bW p)) id (aY p) [] []
theorem GX(q:aS 1 aL):∀ x∈ia q,Fz 3 x:=fun x hx=>by simp only[ia,fF,j4,k7]at hx;subst hx;exact z7 yF q
section
variable {S:cZ}
theorem xB(hS:bN S)(p:Pn)(iz:bQ p)(ha:p.az.l.length<=200)(hn:p.ns.l.length<=200)(hok:∀ n∈p.ns.l,∀ z∈bB p n.id,iw p z)(hE:jf p=0):∃ cs:aS 1 ia,cs.l.map (·.l)=aW p/\∃ N,aP S N 133 [.agg p.c] (.tuple [cs.v,aG aH 0]):=by
 obtain⟨N0,h0⟩:=zap hS p;rw[hE]at h0;obtain⟨q1,q2,hq1,lG,N1,h1⟩:=BI hS p iz Ω Ω hok;obtain⟨q3,PR,h3⟩:=RO hS p Ω;have hfl:q2.l.length=q1.l.length:=by rw[hq1,lG];unfold bS bW;rw[zfv]
 have hfb:q1.l.length<=80000:=by rw[←hfl,lG];have:=Bd (p:=p) p.ns.l;have h2:=XF hn (show 2*p.az.l.length<=400 by omega);unfold bW;omega
 obtain⟨cq,hcq⟩:=zof fun z=>RP hS q1 q2 hfl Ω z;have hdl:(aY p).length<=400:=by unfold aY;rw[eR,ig,ig,uF];omega
 have hlen:=yP cq (fun q:aS 1 aL=>q.l) (aY p) [] [];have hlim:(gX cq (fun q:aS 1 aL=>q.l) (aY p) [] []).length<9223372036854775808:=by rw[dw,fO]at hlen;omega
 have hmap:(gX cq (fun q:aS 1 aL=>q.l) (aY p) [] []).map (·.l)=aW p:=by have h:=zcu cq (fun q:aS 1 aL=>q.l) (aY p) [] [];rw[show(fun q:aS 1 aL=>q.l)=(·.l)from rfl]at h;unfold aW;rw[h];congr 1;funext z;rw[(hcq z).1,hq1,lG]
 generalize hT:gX cq (fun q:aS 1 aL=>q.l) (aY p) [] []=T at hlim hmap hlen;have lY:∀ z,(cq z).l.length<=80001/\(cq z).l≠[]:=fun z=>by rw[(hcq z).1];have:=Y7 (f:=IX q1.l q2.l) (bE:=z) q1.l.length [z];unfold bZ;rw[cu,dw]at this;refine⟨Ω,fun e=>?_⟩;rw[e]at this;simp at this
 refine⟨eX zr T hlim,by rw[yg];exact hmap,N0+N1+40000000,sX i133 hS (N0+N1+39999999) fun m hm d ah t af=>?_⟩;simp only[slotsOf,zb,zc,i133,Pn.c]at af;have c0:=h0 m Ω;have c1:=h1 m Ω;have c3:=h3 m Ω;have cc:=fun z d ah aK aa i=>(hcq z).2 m Ω d ah aK aa i;simp only[Pn.c]at c0 c1 c3;have z0:((0:Int) != 0)=false:=rfl;simp only[i133,V0,Xa,Xb,Xe,af,c0,z0,c1,c3,bg];refine ze (fun jj st=>∃(i:Nat)(B:Nat->Nat)(J:aU)(mv ov:IV)(met:List Int)(o:List (aS 1 aL)),(aY p).length-i<=jj/\i<=(aY p).length/\gX cq (fun q:aS 1 aL=>q.l) ((aY p).drop i) met o=T/\met.length<=i*80001/\o.length<=i/\eC aL 1 d 1 B 0 J mv met/\eC ia 1 d 1 B 1 J ov o/\st.aa=aI [p.ns.v,p.az.v,p.fs.v]::J/\aN 51 st.t [(5,ov),(6,mv),(7,q1.v),(8,q2.v),(9,q3.v),(10,iv i)]) (aY p).length Ω ⟨0,fun _=>0,_,.nilsl,.nilsl,[],[],Ω,Ω,hT,Ψ,Ψ,.inl ⟨rfl,rfl⟩,.inl ⟨rfl,rfl⟩,rfl,by simp only[V0,Xa,Xe,af,eU]⟩ ?_;clear af;rintro jj ⟨t,aa⟩ KA ⟨i,B,J,mv,ov,met,o,hjj,hi,l5,hml,hol,hM,hO,ho,af⟩ bV cS dA;dsimp only at ho af;subst ho;simp only[V3]at af;rw[←PR]at hjj hi bV l5 hdl;by_cases h:i<q3.l.length;rotate_left
 ·simp only[V0,Xa,Xe,af,h];refine cS _ _ ?_;rw[VP Ω]at l5;unfold gX at l5;subst l5;obtain⟨m,rfl⟩:=me m 5;have f1:freeze (m+4) d (aI [p.ns.v,p.az.v,p.fs.v]::J) ov=some (eX zr o hlim).v:=ZW (Pre:=[_]) zr rfl (fun a x hx m' hm' _ _=>GX a x hx m' Ω _ _) hlim hO;simp only[V0,Xa,Xe,af];refine⟨_,rfl,?_⟩;show([ov,aG aH 0].mapM (freeze (m+4) d (aI [p.ns.v,p.az.v,p.fs.v]::J))).map IV.tuple=_;rw[yI f1 (yI rfl zck)];rfl
 have hx:q3.l[i]?=some q3.l[i]:=cK h;have rA:q3.l.drop i=q3.l[i]::q3.l.drop (i+1):=HM h;rw[rA]at l5;generalize q3.l[i]=z at hx l5;have kM:bM (q3.l.flatMap aL) (i*1) 1=some [aG aH z]:=zd zf 0 1 hx Ω;have hw:=zq i;have hmb:=XF (show i<=400 by omega) (dz 80001);have hrd:∀ R:aU,RdI (d+1) (fun l=>if l=d then aI [p.ns.v,p.az.v,p.fs.v]::(J++R)else ah l) mv met:=fun R=>by
  rcases hM with⟨rfl,rfl⟩|⟨b,hne,rfl,hb,_⟩
  ·exact .inl ⟨lP 1 aL,rfl,rfl⟩
  ·refine .inr ⟨d,_,_,_,Ω,rfl,?_⟩;show(if d=d then aO.cells [p.ns.v,p.az.v,p.fs.v]::(J++R)else ah d)[1+b]?=_
   rw[bt rfl,qv,jP,gT (cU.1 hb).1];exact hb
 have ael:=fun aa id=>aby hS met Ω z (m:=m) (d:=d) (ah:=ah) (aK:=aI [p.ns.v,p.az.v,p.fs.v]::(J++[.free])) (aa:=aa) (id:=id) (lv:=mv) Ω (hrd _);unfold gX at l5;cases g:met.contains z
 ·rw[g,bC Δ]at l5;obtain⟨hq,agy⟩:=lY z;have hlk:∀(aa:aU)(n:Nat)(j:Nat)(x:aO),j<n->aa[j]?=some x->look d ah aa d j=some x:=fun aa n j x _ hx=>by unfold look;rw[bt rfl];exact hx
  have ahb:∀ xs:List Int,(xs.flatMap aL).all IV.scalar=true:=fun xs=>ot.2 fun x hx=>by obtain⟨a,_,h⟩:=qS.1 hx;simp only[aL,fF,j4,k7]at h;rcases h with rfl;rfl
  obtain⟨e1,mv',J1,ha1,_,hM1,hJ1,PX⟩:=yB (k0:=1) (n0:=J.length+1+1+1) (slot:=0) (k:=2) (Pre:=[aI [p.ns.v,p.az.v,p.fs.v]]) (R:=[.free,.free,.free]) zf rfl hM (ys:=(cq z).l) (fun e=>agy (Fv e)) Ω Ω rfl (ahb _);have Fm:=PX Δ hO;obtain⟨e2,ov',J2,ha2,_,dX,hJ2,PW⟩:=yB (k0:=1) (n0:=J1.length+1) (slot:=0) (k:=0) (Pre:=[aI [p.ns.v,p.az.v,p.fs.v]]) (R:=[.free]) zr rfl Fm (ys:=[cq z]) Ψ (by simp only[cu,dw];omega) Ω rfl (by simp[ia,Zp]);have hM2:=PW Δ hM1;have ap1:=ha1 _ (hlk _ _);have ap2:=ha2 _ (hlk _ _);simp only[gQ,gM,fJ,lz,ia,cu,dw,iL,fO]at ap1 ap2;simp only[V0,Xa,Xb,Xe,af,h,za q3 h,kM,ael,g,cc,zh,zk,zo,zw,ap1,Qs,Zv,ap2,hw];exact bV _ (q3.l.length-(i+1)) Ω ⟨i+1,_,J2,mv',ov',met++(cq z).l,o++[cq z],Ω,Ω,l5,by rw[eR];omega,by rw[eR];simp;omega,hM2,dX,rfl,by simp only[V0,Xa,Xe,af]⟩
 ·rw[g,bt rfl]at l5;simp only[V0,Xa,Xe,af,h,za q3 h,kM,ael,g,hw];have ag6:met.length<=(i+1)*80001:=lW hml (HL _ (Nat.le_succ i));have agz:o.length<=i+1:=Ω;have hj2:q3.l.length-(i+1)<=q3.l.length-(i+1):=dz _;have hi2:i+1<=q3.l.length:=Ω;refine bV _ (q3.l.length-(i+1)) Ω ⟨i+1,B,J++[.free],mv,ov,met,o,hj2,hi2,l5,ag6,agz,hM.more _,hO.more _,rfl,by simp only[V0,Xa,Xe,af]⟩
end
def Pb(p:Pn)(z:Int):Bool:=p.az.l.any fun a=>a.id==z||a.id==jg z
def qy(acc:Int)(a b:Pt):Int:=aT .i64 (aT .i64 (acc+aT .i64 (a.x*b.y))-aT .i64 (b.x*a.y))
def qV(l:List Pt)(acc:Int):Nat->Int
 |0=>acc
 |k+1=>match l[k]?,l[k+1]? with
  |some a,some b=>qy (qV l acc k) a b
  |_,_=>qV l acc k
def twP(l:List Pt)(acc:Int):Int:=qV l acc (l.length-1)
def gq(p:Pn)(l:List Int):Int:=l.foldl (fun acc z=>twP (bJ p z) acc) 0
theorem ab3(a:Ac):Fz 8 (.agg a.c):=fun m hm lv aa=>(Gz (k:=6) (ab2 a)) m Ω lv aa
section
variable {S:cZ}
theorem ab0(hS:bN S)(p:Pn)(z:Int):∃(a:Ac)(b:Bool),aP S (p.az.l.length+15) 210 [.agg p.c,aG aH z] (.tuple [.agg a.c,.bool b,.bool (Pb p z)]):=by
 have Qf:=p.az.gC;have hfz:∀(a:Ac)(b c:Bool),Fz 9 (.tuple [.agg a.c,.bool b,.bool c]):=fun a b c=>zbc fun x hx=>by
  simp only[fF,j4,k7]at hx;rcases hx with rfl|rfl|rfl
  ·exact ab3 a
  ·exact fun m hm lv aa=>zj m Ω lv aa
  ·exact fun m hm lv aa=>zj m Ω lv aa
 cases hf:p.az.l.findIdx? fun a=>a.id==z||a.id==jg z with
 |none =>
  rw[Ks]at hf
  have hok:Pb p z=false:=by unfold Pb;rw[qT];exact fun a ha=>by rw[hf a ha];decide
  refine⟨tF,false,sX i210 hS (p.az.l.length+14) fun m hm d ah t af=>?_⟩
  rw[hok]
  simp only[V2,i210,Pn.c]at af
  simp only[i210,V0,Xb,af]
  refine ze (fun jj st=>∃(i:Nat),p.az.l.length-i<=jj/\i<=p.az.l.length/\st.aa=[aI [p.ns.v,p.az.v,p.fs.v],aI [aG aH 0,aG aH 0,aG aH 0,.nilsl,aG aH 0,aG aH 0]]/\aN 43 st.t [(1,aG aH z),(2,.ptrM d 0 0),(4,.ptrM d 1 0),(7,iv i)]) p.az.l.length Ω ⟨0,Ω,Ω,rfl,by simp only[V0,Xa,Xe,af,eU]⟩ ?_
  clear af
  rintro jj ⟨t,aa⟩ KA ⟨i,hjj,hi,ho,af⟩ bV cS dA
  dsimp only at ho af
  subst ho
  simp only[V3]at af
  by_cases h:i<p.az.l.length
  ·have hx:p.az.l[i]?=some p.az.l[i]:=cK h
   have hne:=hf _ (gU h)
   generalize p.az.l[i]=x at hx hne
   have sE:bM (p.az.l.flatMap Ac.c) (i*6) 1=some [aG aH x.id]:=(zd Ac.aZ 0 1 hx Ω).trans rfl
   have hw:=zq i
   rw[uQ]at hne
   obtain⟨n1,n2⟩:=hne
   unfold jg at n2
   simp only[V0,Xa,Xb,Xe,za p.az h, *]
   exact bV _ (p.az.l.length-(i+1)) Ω ⟨i+1,Ω,Ω,rfl,by simp only[V0,Xa,Xe,af]⟩
  ·simp only[V0,Xa,Xb,Xe,af,h]
   refine cS _ _ ?_
   simp only[V0,Xa,Xb,Xe,af,bP,rO,Cc,tC,uG]
   exact⟨_,rfl,hfz tF false false m Ω _ _⟩
 |some k =>
  obtain⟨hk,rz,Gq⟩:=Kt.1 hf
  have hxk:p.az.l[k]?=some p.az.l[k]:=cK hk
  have hok:Pb p z=true:=by unfold Pb;rw[rR];exact⟨_,gU hk,rz⟩
  generalize p.az.l[k]=a at hxk rz
  refine⟨a,!(a.id==z),sX i210 hS (p.az.l.length+14) fun m hm d ah t af=>?_⟩
  rw[hok]
  simp only[V2,i210,Pn.c]at af
  simp only[i210,V0,Xb,af]
  refine ze (fun jj st=>∃(i:Nat),k-i<=jj/\i<=k/\st.aa=[aI [p.ns.v,p.az.v,p.fs.v],aI [aG aH 0,aG aH 0,aG aH 0,.nilsl,aG aH 0,aG aH 0]]/\aN 43 st.t [(1,aG aH z),(2,.ptrM d 0 0),(4,.ptrM d 1 0),(7,iv i)]) k Ω ⟨0,Ω,Ω,rfl,by simp only[V0,Xa,Xe,af,eU]⟩ ?_
  clear af
  rintro jj ⟨t,aa⟩ KA ⟨i,hjj,hi,ho,af⟩ bV cS dA
  dsimp only at ho af
  subst ho
  simp only[V3]at af
  have h:i<p.az.l.length:=Ω
  have hx:p.az.l[i]?=some p.az.l[i]:=cK h
  by_cases hik:i=k
  ·subst hik
   rw[kT (hx.symm.trans hxk)]at hx
   have sE:bM (p.az.l.flatMap Ac.c) (i*6) 1=some [aG aH a.id]:=(zd Ac.aZ 0 1 hx Ω).trans rfl
   have hr6:bM (p.az.l.flatMap Ac.c) (i*6) 6=some [aG aH a.id,aG aH a.fr,aG aH a.to,a.via.v,aG aH a.l,aG aH a.r]:=(zd Ac.aZ 0 6 hx Ω).trans rfl
   cases g1:a.id==z
   ·have g2:(a.id==aT .i64 (0-z))=true:=by rw[g1,iS]at rz;exact rz
    simp only[V0,Xa,Xb,Xe,za p.az h, *]
    refine dA _ ?_
    simp only[V0,Xa,Xe,af,bP,rO,Cc,tC,uG]
    refine⟨_,rfl,?_⟩
    rw[g1]
    exact hfz a true true m Ω _ _
   ·simp only[V0,Xa,Xb,Xe,za p.az h, *]
    refine dA _ ?_
    simp only[V0,Xa,Xe,af,bP,rO,Cc,tC,uG]
    refine⟨_,rfl,?_⟩
    rw[g1]
    exact hfz a false true m Ω _ _
  ·have hne:((p.az.l[i].id==z)||(p.az.l[i].id==jg z))=false:=by have:=Gq i Ω;simpa using this
   generalize p.az.l[i]=x at hx hne
   have sE:bM (p.az.l.flatMap Ac.c) (i*6) 1=some [aG aH x.id]:=(zd Ac.aZ 0 1 hx Ω).trans rfl
   have hw:=zq i
   rw[uQ]at hne
   obtain⟨n1,n2⟩:=hne
   unfold jg at n2
   simp only[V0,Xa,Xb,Xe,za p.az h, *]
   exact bV _ (k-(i+1)) Ω ⟨i+1,Ω,Ω,rfl,by simp only[V0,Xa,Xe,af]⟩
theorem MD(hS:bN S)(p:Pn)(z:Int):aP S (p.az.l.length+25) 168 [.agg p.c,aG aH z] (.bool (Pb p z&&!(z==0))):=by
 obtain⟨a,b,h1⟩:=ab0 hS p z;refine gv i168 hS (p.az.l.length+24) zj fun m hm d ah t af=>?_;simp only[V2,i168,Pn.c]at af;have c1:=h1 m Ω;simp only[Pn.c,Ac.c,zg]at c1;cases g:Pb p z
 ·simp only[i168,V0,Xa,Xb,Xe,af,c1,bg,g,ew]
 ·have hne:(z != 0)=!(z==0):=rfl;simp only[i168,V0,Xa,Xb,Xe,af,c1,bg,g,hne]
theorem zcv(hS:bN S)(p:Pn)(iz:bQ p)(l:aS 1 aL)(hl:l.l.length<=512)(hok:∀ z∈l.l,iw p z/\Pb p z=true/\z≠0):∃ N,aP S N 134 [.agg p.c,l.v] (aG aH (gq p l.l)):=by
 obtain⟨N1,h1⟩:∃ N,∀ z∈l.l,∃ q:aS 2 Pt.c,q.l=bJ p z/\aP S N 169 [.agg p.c,aG aH z] q.v:=Yz (P:=fun(z:Int) N=>∃ q:aS 2 Pt.c,q.l=bJ p z/\aP S N 169 [.agg p.c,aG aH z] q.v) (fun a n m hnm ⟨q,hq,h⟩=>⟨q,hq,fun m' hm'=>h m' Ω⟩) fun z hz=>by obtain⟨q,hq,N,h⟩:=EK hS p z iz (hok z hz).1;exact⟨N,q,hq,h⟩
 have hpl:∀ z,2<=(bJ p z).length/\(bJ p z).length<=100002:=fun z=>by
  unfold bJ;cases decide (0<z)
  ·rw[bL,uF];exact yN iz _
  ·exact yN iz _
 refine⟨N1+p.az.l.length+200001,gv i134 hS (N1+p.az.l.length+200000) zn fun m hm d ah t af=>?_⟩;simp only[V2,i134,Pn.c]at af;have d0:decide (((l.l.length:Nat):Int)>512)=false:=by simp;omega
 simp only[i134,V0,Xa,Xe,af,d0];refine ze (fun jj st=>∃(i:Nat)(J:aU),l.l.length-i<=jj/\i<=l.l.length/\st.aa=aI [p.ns.v,p.az.v,p.fs.v]::J/\aN 65 st.t [(1,l.v),(2,.ptrM d 0 0),(5,aG aH (gq p (l.l.take i))),(6,iv i)]) l.l.length Ω ⟨0,[],Ω,Ω,rfl,by simp only[V0,Xa,Xe,af,eU];rfl⟩ ?_;clear af;rintro jj ⟨t,aa⟩ KA ⟨i,J,hjj,hi,ho,af⟩ bV cS dA;dsimp only at ho af;subst ho;simp only[V3]at af;by_cases h:i<l.l.length;rotate_left
 ·simp only[V0,Xa,Xe,af,h];refine cS _ _ ?_;have e:l.l.take i=l.l:=gj Ω;simp only[V0,Xa,Xe,af,e]
 have hx:l.l[i]?=some l.l[i]:=cK h;have hmem:=gU h;generalize l.l[i]=z at hx hmem;obtain⟨q,hq,cq⟩:=h1 z hmem;obtain⟨_,hoA,hz0⟩:=hok z hmem;have cq:=cq m Ω;have cv:=MD hS p z m Ω;have hzb:(z==0)=false:=by simpa using hz0
 rw[hoA,hzb]at cv;simp only[Pn.c,BW,Kn]at cq cv;have pU:=hpl z;rw[←hq]at pU;have kM:bM (l.l.flatMap aL) (i*1) 1=some [aG aH z]:=zd zf 0 1 hx Ω;have hw:=zq i;have hst:gq p (l.l.take (i+1))=twP q.l (gq p (l.l.take i)):=by rw[zt hx,hq];unfold gq;rw[zmo];rfl
 generalize gq p (l.l.take i)=acc at af hst;simp only[V0,Xa,Xe,af,h,za l h,kM,cv,cq,Xb];refine ze (fun jj st=>∃(k:Nat)(J:aU),q.l.length-1-k<=jj/\k<=q.l.length-1/\st.aa=aI [p.ns.v,p.az.v,p.fs.v]::J/\aN 65 st.t [(1,l.v),(2,.ptrM d 0 0),(5,aG aH (qV q.l acc k)),(6,iv i),(7,q.v),(8,aG aH ((k+1:Nat):Int))]) q.l.length Ω ⟨0,_,Ω,Ω,rfl,by simp only[V0,Xa,Xe,af];trivial⟩ ?_;clear af;rintro jj2 ⟨t,aa⟩ KB ⟨k,J2,hjj2,hk,ho,af⟩ jo lX mE;dsimp only at ho af;subst ho;simp only[V3]at af;by_cases h2:k+1<q.l.length
 ·have h3:k<q.l.length:=Ω;have ha:q.l[k]?=some q.l[k]:=cK h3;have hb:q.l[k+1]?=some q.l[k+1]:=cK h2;generalize q.l[k]=a at ha;generalize q.l[k+1]=b at hb;have ra0:bM (q.l.flatMap Pt.c) (k*2) 1=some [aG aH a.x]:=(zd Pt.aZ 0 1 ha Ω).trans rfl;have ra1:bM (q.l.flatMap Pt.c) (k*2+1) 1=some [aG aH a.y]:=(zd Pt.aZ 1 1 ha Ω).trans rfl;have rb0:bM (q.l.flatMap Pt.c) ((k+1)*2) 1=some [aG aH b.x]:=(zd Pt.aZ 0 1 hb Ω).trans rfl;have rb1:bM (q.l.flatMap Pt.c) ((k+1)*2+1) 1=some [aG aH b.y]:=(zd Pt.aZ 1 1 hb Ω).trans rfl;have wm:aT .i64 (((k+1:Nat):Int)-1)=((k:Nat):Int):=we;have wp:aT .i64 (((k+1:Nat):Int)+1)=((k+1+1:Nat):Int):=we;have hs2:qV q.l acc (k+1)=qy (qV q.l acc k) a b:=by
   conv=>lhs;unfold qV
   rw[ha,hb]
  unfold qy at hs2;simp only[V0,Xa,Xe,af,h2,wm,za q h3,za q h2,ra0,ra1,rb0,rb1,wp];exact jo _ (q.l.length-1-(k+1)) Ω ⟨k+1,J2,Ω,Ω,rfl,by simp only[V0,Xa,Xe,af,hs2]⟩
 ·have au:(((k+1:Nat):Int)<((q.l.length:Nat):Int))=False:=eq_false Ω;simp only[V0,Xa,Xe,af,au];refine lX _ _ ?_;have e:qV q.l acc k=twP q.l acc:=by unfold twP;rw[show k=q.l.length-1 by omega]
  rw[e,←hst]at af;simp only[V0,Xa,Xe,af,hw];exact bV _ (l.l.length-(i+1)) Ω ⟨i+1,J2,Ω,Ω,rfl,by simp only[V0,Xa,Xe,af]⟩
end
def GD(p:Pn)(z:Int):Prop:=∃ a∈p.az.l,(1<=a.id/\a.id<=4611686018427387904)/\(z=a.id∨z=-a.id)/\dJ p a.id=true
theorem I2{z:Int}(h1:-4611686018427387904<=z)(h2:z<=4611686018427387904):jg z=-z:=by unfold jg;rw[Int.zero_sub];exact zD rfl Ω Ω
theorem XR{p:Pn}{z:Int}(h:GD p z):(dF z=z/\0<z∨dF z=jg z/\¬ 0<z)/\dJ p (dF z)=true/\iw p z/\Pb p z=true/\z≠0/\-4611686018427387904<=z/\z<=4611686018427387904:=by
 obtain⟨a,ha,⟨h1,h2⟩,hz,hok⟩:=h;have hn:jg z=-z:=I2 (by rcases hz with rfl|rfl<;>omega) (by rcases hz with rfl|rfl<;>omega);have aq:dF z=a.id:=ab4 h1 h2 (by
  rcases hz with h|h
  ·exact .inl h
  ·exact .inr (by rw [h,← I2 (z:=a.id) Ω h2]; rfl))
 have hA:Pb p z=true:=by unfold Pb;rw[rR];refine⟨a,ha,?_⟩;rw[nu,n9,n9,hn];omega
 refine⟨?_,by rw[aq];exact hok,?_,hA,Ω,Ω,Ω⟩
 ·rw[aq,hn];omega
 ·unfold iw;rw[hn];rcases hz with rfl|rfl
  ·rw[bt Ω];exact hok
  ·rw[bC Ω,tA];exact hok
def mo(a b:Int):Bool:=decide (dF a<dF b)||(dF a==dF b&&decide (b<a))
def ql(l:List Int)(k:Int):Nat->Int
 |0=>k
 |i+1=>match l[i]? with
  |some x=>if mo x (ql l k i)=true then x else ql l k i
  |none=>ql l k i
def kX(l:List Int):Int:=ql l ((l[0]?).getD 0) l.length
def Io(a b c:Pt):Int:=bif decide (0<KH a b c)then 1 else bif decide (KH a b c<0)then -1 else 0
def nC(a b p:Pt):Bool:=(Io a b p==0)&&(decide (sC a.x b.x<=p.x)&&(decide (p.x<=s9 a.x b.x)&&(decide (sC a.y b.y<=p.y)&&decide (p.y<=s9 a.y b.y))))
section
variable {S:cZ}
theorem BG(hS:bN S)(z:Int):aP S 2 172 [aG aH z] (aG aH (dF z)):=by refine gv i172 hS 1 zn fun m hm d ah t af=>?_;simp only[slotsOf,zb,zc,i172]at af;simp only[i172,V0,Xa,Xe,reduceCtorEq,af,dF]
theorem xC(hS:bN S)(a b:Int):aP S 4 162 [aG aH a,aG aH b] (.bool (mo a b)):=by
 refine gv i162 hS 3 zj fun m hm d ah t af=>?_;simp only[V2,i162]at af;have cs:=fun z d ah aK aa i=>BG hS z m Ω d ah aK aa i;unfold mo;cases g1:decide (dF a<dF b)
 ·cases g2:dF a==dF b
  ·simp only[i162,V0,Xa,Xe,reduceCtorEq,af,cs,g1,g2,iS,ew]
  ·simp only[i162,V0,Xa,Xe,reduceCtorEq,af,cs,g1,g2,eZ,iS]
 ·simp only[i162,V0,Xa,Xe,reduceCtorEq,af,cs,g1,iY]
theorem abx(hS:bN S)(l:aS 1 aL)(h0:l.l≠[]):aP S (l.l.length+10) 163 [l.v] (aG aH (kX l.l)):=by
 refine gv i163 hS (l.l.length+9) zn fun m hm d ah t af=>?_;simp only[slotsOf,zb,zc,i163]at af;have hlf:=l.gC;have hpos:0<l.l.length:=XK.2 h0;have hx0:l.l[0]?=some l.l[0]:=cK hpos;have hk0:(l.l[0]?).getD 0=l.l[0]:=by rw[hx0];rfl
 unfold kX;rw[hk0];generalize l.l[0]=k0 at hx0;have sE:bM (l.l.flatMap aL) 0 1=some [aG aH k0]:=zd (i:=0) zf 0 1 hx0 Ω;have qg:∀ aa,dD aa 1 l.v (aG aH 0)=some (.p,.ptrC (l.l.flatMap aL) 0,aa):=fun aa=>za l (i:=0) hpos;have cb:=fun a b d ah aK aa i=>xC hS a b m Ω d ah aK aa i;simp only[i163,V0,Xa,reduceCtorEq,af,qg,sE];refine ze (fun jj st=>∃(i:Nat)(J:aU),l.l.length-i<=jj/\i<=l.l.length/\st.aa=J/\aN 25 st.t [(0,l.v),(3,aG aH (ql l.l k0 i)),(4,iv i)]) l.l.length Ω ⟨0,[],Ω,Ω,rfl,by simp only[V0,Xa,Xe,reduceCtorEq,af,eU];rfl⟩ ?_;clear af;rintro jj ⟨t,aa⟩ KA ⟨i,J,hjj,hi,ho,af⟩ bV cS dA;dsimp only at ho af;subst ho;simp only[V3]at af;by_cases h:i<l.l.length
 ·obtain⟨x,hx⟩:=gx (l:=l.l) (i:=i) h;have kM:bM (l.l.flatMap aL) (i*1) 1=some [aG aH x]:=zd zf 0 1 hx Ω;have hw:=zq i;have hst:ql l.l k0 (i+1)=if mo x (ql l.l k0 i)=true then x else ql l.l k0 i:=by
   conv=>lhs;unfold ql
   rw[hx]
  cases g:mo x (ql l.l k0 i)
  ·rw[g,bC Δ]at hst;simp only[V0,Xa,Xe,reduceCtorEq,za l h, *];exact bV _ (l.l.length-(i+1)) Ω ⟨i+1,_,Ω,Ω,rfl,by simp only[V0,Xa,Xe,reduceCtorEq,af,hst]⟩
  ·rw[g,bt rfl]at hst;simp only[V0,Xa,Xe,reduceCtorEq,za l h, *];exact bV _ (l.l.length-(i+1)) Ω ⟨i+1,_,Ω,Ω,rfl,by simp only[V0,Xa,Xe,reduceCtorEq,af,hst]⟩
 ·simp only[V0,Xa,Xe,reduceCtorEq,af,h];refine cS _ _ ?_;obtain rfl:i=l.l.length:=Ω;simp only[V0,Xa,Xe,af]
theorem zcw(hS:bN S)(a b c:Pt):aP S 2 212 [.agg a.c,.agg b.c,.agg c.c] (aG aH (Io a b c)):=by
 refine gv i212 hS 1 zn fun m hm d ah t af=>?_;simp only[V2,Xb,i212,Pt.c,zg]at af;have u9:aT .i64 (aT .i64 (aT .i64 (b.x-a.x)*aT .i64 (c.y-a.y))-aT .i64 (aT .i64 (c.x-a.x)*aT .i64 (b.y-a.y)))=KH a b c:=by unfold KH;rw[zoj (aT .i64 (c.x-a.x))]
 unfold Io;cases g1:decide (0<KH a b c)
 ·cases g2:decide (KH a b c<0)
  ·simp only[i212,V0,Xa,Xb,Xe,af,u9,eZ,g1,g2,bL]
  ·simp only[i212,V0,Xa,Xb,Xe,af,u9,eZ,g1,g2,bL,bT]
 ·simp only[i212,V0,Xa,Xb,Xe,af,u9,eZ,g1,bT]
theorem Vx(hS:bN S)(a b c:Pt):aP S 4 211 [.agg a.c,.agg b.c,.agg c.c] (.bool (nC a b c)):=by
 refine gv i211 hS 3 zj fun m hm d ah t af=>?_;simp only[V2,Xb,i211,Pt.c,zg]at af;have cs:=zcw hS a b c m Ω;simp only[Pt.c,zg]at cs;unfold nC;generalize Io a b c=s at cs;cases g0:s==0
 ·simp only[i211,V0,Xa,Xb,Xe,af,cs,g0,ew]
 cases g1:decide (sC a.x b.x<=c.x)
 ·have g1':=g1;unfold sC at g1';simp only[i211,V0,Xa,Xb,Xe,af,cs,g0,g1',ew]
 cases g2:decide (c.x<=s9 a.x b.x)
 ·have g1':=g1;have g2':=g2;unfold sC at g1';unfold s9 at g2';simp only[i211,V0,Xa,Xb,Xe,ew, *]
 cases g3:decide (sC a.y b.y<=c.y)
 ·have g1':=g1;have g2':=g2;have g3':=g3;unfold sC at g1' g3';unfold s9 at g2';simp only[i211,V0,Xa,Xb,Xe,ew, *]
 ·unfold sC at g1 g3;unfold s9 at g2;simp only[i211,V0,Xa,Xb,Xe,eZ,s9, *];rfl
end
section
variable {p:Pn} (h:aV p)
include h
theorem aV.ng{a:Ac}(ha:a∈p.az.l):jg a.id=-a.id:=by have:=h.pid a ha;exact I2 Ω Ω
theorem aV.ng2{a:Ac}(ha:a∈p.az.l):jg (-a.id)=a.id:=by have:=h.pid a ha;rw[I2 Ω Ω,tA]
theorem aV.inE{a:Ac}(ha:a∈p.az.l):(a.id,0)∈h.bp.E:=by have:=zN (p:=p) (a:=a);exact jA.2 ⟨_,YC ha (show 0<(bu p a).length-1 by omega),rfl⟩
theorem aV.ofE{z:Int}{k:Nat}(hz:(z,k)∈h.bp.E):∃ a∈p.az.l,a.id=z/\k<(bu p a).length-1:=by obtain⟨s,hs,e⟩:=jA.1 hz;obtain⟨x,hx,i,hi,rfl⟩:=Zg hs;cases e;exact⟨x,hx,rfl,hi⟩
theorem aV.len{a:Ac}(ha:a∈p.az.l):h.bp.len a.id=(bu p a).length-1:=by show(eH p a.id).length-1=_;rw[(h.nice.path ha).2]
theorem aV.pt{a:Ac}(ha:a∈p.az.l)(k:Nat):h.bp.pt a.id k=(bu p a).getD k gB:=by show(eH p a.id).getD k gB=_;rw[(h.nice.path ha).2]
theorem aV.cW{z:Int}:h.bp.eY z↔∃ a∈p.az.l,z=a.id∨z=-a.id:=by
 constructor
 ·rintro(hz|hz)
  ·obtain⟨a,ha,e,_⟩:=h.ofE hz;exact⟨a,ha,.inl e.symm⟩
  ·obtain⟨a,ha,e,_⟩:=h.ofE hz;exact⟨a,ha,.inr Ω⟩
 ·rintro⟨a,ha,rfl|rfl⟩
  ·exact .inl (h.inE ha)
  ·exact .inr (by rw[tA];exact h.inE ha)
omit h in
theorem wv{a:Ac}:(bu p a).getD ((bu p a).length-1) gB=(cF p a.to).at':=by unfold bu;rw[mN,cu,eR,cu,dw,show a.via.l.length+(0+1)+1-1=a.via.l.length+1 by omega,jP,jd (dz _),rM];rfl
theorem aV.qA{a:Ac}(ha:a∈p.az.l):h.bp.sp a.id=(cF p a.fr).at'/\h.bp.sc a.id=fS p a.id:=by have hid:=h.pid a ha;have h2:=zN (p:=p) (a:=a);unfold Net.sp Net.sc;rw[bt Ω,bt Ω,h.pt ha,h.pt ha];refine⟨rfl,?_⟩;unfold fS bJ;rw[decide_eq_true (show 0<a.id by omega),bT,(h.nice.path ha).2,mN];rfl
theorem aV.rT{a:Ac}(ha:a∈p.az.l):h.bp.sp (-a.id)=(cF p a.to).at'/\h.bp.sc (-a.id)=fS p (-a.id):=by have hid:=h.pid a ha;have h2:=zN (p:=p) (a:=a);unfold Net.sp Net.sc;rw[bC Ω,bC Ω,tA,h.len ha,h.pt ha,h.pt ha];refine⟨wv,?_⟩;unfold fS bJ;rw[decide_eq_false (show ¬ 0 < -a.id by omega),bL,h.ng2 ha,(h.nice.path ha).2,XN Ω,mN];rw[show(bu p a).length-1-1=(bu p a).length-1-1 from rfl];rfl
theorem aV.node_eq{id:Int}(hi:(dN p id).isSome=true){x:Nd}(hx:x∈p.ns.l):(cF p id).at'=x.at'↔id=x.id:=by
 obtain⟨m1,m2⟩:=yG hi;constructor
 ·intro e;rw[←m2];exact zbz h.pts m1 hx (by rw[e]) (by rw[e])
 ·intro e;have:cF p id=x:=ZN h.nice.Wg m1 hx (by rw[m2,e]);rw[this]
theorem aV.qK{x:Nd}(hx:x∈p.ns.l){z:Int}:(h.bp.eY z/\h.bp.sp z=x.at')↔z∈bB p x.id:=by
 unfold bB;rw[qS];constructor
 ·rintro⟨hd,hs⟩;obtain⟨a,ha,rfl|rfl⟩:=h.cW.1 hd
  ·rw[(h.qA ha).1]at hs;refine⟨a,ha,?_⟩;have:=(h.node_eq (h.nice.fr a ha) hx).1 hs;unfold cV;rw[bt (by simp[this])];simp
  ·rw[(h.rT ha).1]at hs;refine⟨a,ha,?_⟩;have:=(h.node_eq (h.nice.VX a ha) hx).1 hs;unfold cV;rw[og,bt (show(a.to==x.id)=true by simp[this]),h.ng ha];exact .inr Ψ
 ·rintro⟨a,ha,hz⟩;unfold cV at hz;rcases og.1 hz with hz|hz
  ·by_cases hf:(a.fr==x.id)=true
   ·rw[bt hf,qx]at hz;subst hz;exact⟨h.cW.2 ⟨a,ha,.inl rfl⟩,by rw[(h.qA ha).1];exact(h.node_eq (h.nice.fr a ha) hx).2 (eq_of_beq hf)⟩
   ·rw[bC hf]at hz;simp at hz
  ·by_cases hf:(a.to==x.id)=true
   ·rw[bt hf,qx,h.ng ha]at hz;subst hz;exact⟨h.cW.2 ⟨a,ha,.inr rfl⟩,by rw[(h.rT ha).1];exact(h.node_eq (h.nice.VX a ha) hx).2 (eq_of_beq hf)⟩
   ·rw[bC hf]at hz;simp at hz
theorem aV.pJ{x:Nd}:(bB p x.id).Nodup:=by
 unfold bB;rw[List.Nodup,zla];have hm:∀ a∈p.az.l,∀ z∈cV x.id a,z=a.id∨z=-a.id:=fun a ha z hz=>by
  unfold cV at hz;rcases og.1 hz with hz|hz
  ·split at hz
   ·exact .inl (qx.1 hz)
   ·simp at hz
  ·split at hz
   ·exact .inr (by rw[←h.ng ha];exact qx.1 hz)
   ·simp at hz
 refine⟨fun a ha=>?_,?_⟩
 ·have hid:=h.pid a ha;have hng:=h.ng ha;unfold cV;by_cases c1:(a.fr==x.id)=true<;>by_cases c2:(a.to==x.id)=true
  ·rw[bt c1,bt c2,hng];simp;omega
  ·rw[bt c1,bC c2];simp
  ·rw[bC c1,bt c2];simp
  ·rw[bC c1,bC c2];simp
 ·have hp:=h.nice.Nr;rw[qO]at hp;refine hp.imp_of_mem fun{a b} ha hb aq u hu v hv e=>?_;have i1:=h.pid a ha;have i2:=h.pid b hb;rcases hm a ha u hu with rfl|rfl<;>rcases hm b hb v hv with e2|e2<;>omega
theorem aV.aa3{x:Nd}(hx:x∈p.ns.l):¬ ∃ a k,(a,0)∈h.bp.E/\0<k/\k<h.bp.len a/\h.bp.pt a k=x.at':=by
 rintro⟨z,k,h1,h2,h3,h4⟩;obtain⟨a,ha,rfl,_⟩:=h.ofE h1;rw[h.len ha]at h3;rw[h.pt ha]at h4;have m:jW p a k∈eM p:=YC ha h3;have g:=h.good m;have ho:qP (jW p a k).A (jW p a k).B x.at'=true:=by
  have e:(jW p a k).A=x.at':=h4;have hn:bl x.at'=true:=h.nice.Lz x hx;rw[←e]at hn ⊢;unfold qP;have e1:cr (jW p a k).A (jW p a k).B (jW p a k).A (jW p a k).A=0:=by unfold cr;grind
  have e2:dot (jW p a k).A (jW p a k).A (jW p a k).B (jW p a k).A=0:=by unfold dot;grind
  rw[zB g.a g.b g.a g.a,Br g.a g.a g.b g.a,e1,e2];simp[g.a,g.b]
 rcases h.sJ m hx (h.gL m hx ho)with⟨q,_,_⟩|⟨_,_,q⟩
 ·have q:k=0:=q;omega
 ·exact h.ne m (show(jW p a k).A=(jW p a k).B from h4.trans q.symm)
theorem aV.V5{z:Int}(hz:h.bp.eY z):h.bp.sc z≠h.bp.sp z/\(h.bp.sc z).near:=by
 obtain⟨a,ha,rfl|rfl⟩:=h.cW.1 hz
 ·have h2:=zN (p:=p) (a:=a);have hid:=h.pid a ha;unfold Net.sp Net.sc;rw[bt Ω,bt Ω];exact⟨fun e=>h.bp.ne a.id 0 (h.inE ha) e.symm,h.bp.near a.id 0 1 (h.inE ha) (by rw[h.len ha];omega)⟩
 ·have h2:=zN (p:=p) (a:=a);have hid:=h.pid a ha;unfold Net.sp Net.sc;rw[bC Ω,bC Ω,tA];have hw:=h.bp.whole a.id 0 (h.bp.len a.id-1) (h.inE ha) (by rw[h.len ha];omega);have hn:=h.bp.ne _ _ hw;rw[show h.bp.len a.id-1+1=h.bp.len a.id by rw[h.len ha];omega]at hn;exact⟨hn,h.bp.near a.id 0 _ (h.inE ha) Ω⟩
theorem aV.around{x:Nd}(hx:x∈p.ns.l):(bD p x.id).Perm (bB p x.id)/\(bD p x.id).Pairwise (fun a b=>lss x.at' (h.bp.sc a) (h.bp.sc b)=true):=by
 obtain⟨l,l1,l2⟩:=h.bp.ring (Yv (h.nice.Lz x hx)) (h.aa3 hx);have ak:l.Nodup:=l2.imp fun{a b} aq e=>by subst e;rw[AX]at aq;cases aq
 have iF:l.Perm (bB p x.id):=(VT ak h.pJ).2 fun e=>(l1 e).trans (h.qK hx);have adr:dN p x.id=some x:=Zf h.nice.Wg hx;have hsc:∀ z∈bB p x.id,fS p z=h.bp.sc z/\(fS p z).near/\fS p z≠x.at':=fun z hz=>by
  obtain⟨d1,d2⟩:=(h.qK hx).2 hz;have e:fS p z=h.bp.sc z:=by
   obtain⟨a,ha,rfl|rfl⟩:=h.cW.1 d1
   ·exact(h.qA ha).2.symm
   ·exact(h.rT ha).2.symm
  have hn:=h.V5 d1;rw[d2]at hn;exact⟨e,by rw[e];exact hn.2,by rw[e];exact hn.1⟩
 have oh:=Yv (h.nice.Lz x hx);have au:∀ a∈bB p x.id,∀ b∈bB p x.id,gu x.at' (fS p a) (fS p b)=lss x.at' (h.bp.sc a) (h.bp.sc b):=fun a ha b hb=>by obtain⟨a1,a2,a3⟩:=hsc a ha;obtain⟨b1,b2,b3⟩:=hsc b hb;rw[Pj oh a2 b2 a3 b3,a1,b1]
 have hsel:bD p x.id=l:=by
  unfold bD;rw[adr];show Ak (bB p x.id) (s7 (gu x.at') ((bB p x.id).map (fS p)))=l;refine FO iF (l2.imp_of_mem fun{a b} ha hb aq=>?_) (fun a ha b hb aq=>?_) (fun a ha=>?_)
  ·rw[au a (iF.mem_iff.1 ha) b (iF.mem_iff.1 hb)];exact aq
  ·rw[au a ha b hb]at aq;rw[au b hb a ha];cases hc:lss x.at' (h.bp.sc b) (h.bp.sc a)
   ·rfl
   ·exact(Zw aq hc).elim
  ·rw[au a ha a ha];exact AX
 rw[hsel];exact⟨iF,l2⟩
end
section
variable {S:cZ}
theorem xz(hS:bN S)(p:Pn)(z:Int)(hv:bQ p)(hg:GD p z):∃ q:aS 2 Pt.c,q.l=bJ p z/\∃ N,aP S N 136 [.agg p.c,aG aH z] q.v:=by
 obtain⟨aq,hok,_,_,_,j8,fG⟩:=XR hg;obtain⟨q,hq,N,h1⟩:=YN hS p (dF z) hv;rw[hok]at h1;have hq:=hq hok;have pU:=yN hv (dF z);rw[←hq]at pU;unfold bJ;rcases aq with⟨aq,g1⟩|⟨aq,g1⟩
 ·have hd:decide (0<z)=true:=decide_eq_true g1;refine⟨q,by rw[hd,hq,aq];rfl,N+11,sX i136 hS (N+10) fun m hm d ah t af=>?_⟩;simp only[V2,i136,Pn.c]at af;have c0:=BG hS z m Ω;have c1:=h1 m Ω;simp only[Pn.c,zg]at c1;simp only[i136,V0,Xa,Xb,Xe,af,c0,c1,bg,eZ,g1];exact⟨_,rfl,z7 ZD q m Ω _ _⟩
 ·have hd:decide (0<z)=false:=decide_eq_false g1;have qD:(q.l.reverse).length<9223372036854775808:=by rw[uF];omega
  refine⟨eX Pt.aZ q.l.reverse qD,by rw[hd,yg,hq,aq];rfl,N+q.l.length+11,sX i136 hS (N+q.l.length+10) fun m hm d ah t af=>?_⟩;simp only[V2,i136,Pn.c]at af;have c0:=BG hS z m Ω;have c1:=h1 m Ω;simp only[Pn.c,zg]at c1;have hw0:aT .i64 (((q.l.length:Nat):Int)-1)=((q.l.length:Nat):Int)-1:=zD rfl Ω Ω;simp only[i136,V0,Xa,Xb,Xe,af,c0,c1,bg,eZ,g1,hw0];refine ze (fun jj st=>∃(i:Nat)(J:aU)(lv:IV),q.l.length-i<=jj/\i<=q.l.length/\cg Pt.c 2 d 3 J lv (q.l.reverse.take i)/\st.aa=aI [p.ns.v,p.az.v,p.fs.v]::.free::.free::J/\aN 34 st.t [(5,q.v),(7,lv),(8,aG aH (((q.l.length:Nat):Int)-1-(i:Int)))]) q.l.length Ω ⟨0,[],.nilsl,Ω,Ω,.inl ⟨rfl,rfl⟩,rfl,by simp only[V0,Xa,Xe,af,eU,zoi]⟩ ?_;clear af;rintro jj ⟨t,aa⟩ KA ⟨i,J,lv,hjj,hi,hO,ho,af⟩ bV cS dA;dsimp only at ho af;subst ho;simp only[zb,zc]at af;by_cases h:i<q.l.length
  ·have hk:q.l.length-1-i<q.l.length:=Ω;obtain⟨x,hx⟩:=gx (l:=q.l) (i:=q.l.length-1-i) hk;have Wp:q.l.reverse[i]?=some x:=by rw[XN h];exact hx
   have hrd:bM (q.l.flatMap Pt.c) ((q.l.length-1-i)*2) 2=some [aG aH x.x,aG aH x.y]:=(zd Pt.aZ 0 2 hx Ω).trans rfl;have e1:((q.l.length:Nat):Int)-1-(i:Int)=((q.l.length-1-i:Nat):Int):=Ω;have hge:(0<=((q.l.length-1-i:Nat):Int))=True:=eq_true Ω;have hw:aT .i64 (((q.l.length-1-i:Nat):Int)-1)=((q.l.length:Nat):Int)-1-((i+1:Nat):Int):=zD Ω Ω Ω;have au:(q.l.reverse.take i).length=i:=by rw[k8,uF,qu Ω]
   obtain⟨e,dR,J2,b9,dX⟩:=zM (Pre:=[aI [p.ns.v,p.az.v,p.fs.v],.free,.free]) (n0:=J.length+1+1+1) (slot:=0) (k:=0) (ah:=ah) (R:=[.free]) Pt.aZ hO (ys:=[x]) Ψ (by simp only[au,cu,dw];omega) (by simp only[cu,dw];omega) rfl rfl;simp only[gQ,gM,fJ,lz,Pt.c,zg,cu,dw,iL,fO]at b9;rw[←zt Wp]at dX;have cI2:∀(lk:Nat->Nat->Option aO)(a b:IV),cB lk 2 (.slC [a,b] 1 2 true)=some ([a,b],1):=fun lk a b=>rfl;rw[e1]at af;simp only[V0,Xa,Xb,Xe,af,mM,hge,za q hk,hrd,rep,zh,zk,zo,cI2,b9,hw];exact bV _ (q.l.length-(i+1)) Ω ⟨i+1,J2,dR,Ω,Ω,dX,rfl,by simp only[V0,Xa,Xe,af]⟩
  ·obtain rfl:i=q.l.length:=Ω;have hge:(0<=((q.l.length:Nat):Int)-1-((q.l.length:Nat):Int))=False:=eq_false Ω;simp only[V0,Xa,af,mM,hge];refine cS _ _ ?_;have e:q.l.reverse.take q.l.length=q.l.reverse:=gj Ψ;rw[e]at hO;simp only[V0,Xa,Xe,af];exact⟨_,rfl,yK (Pre:=[_,_,_]) Pt.aZ ZD Ω qD hO⟩
end
def fN(a b q:Pt):Bool:=bif decide (b.y<a.y)then(decide (b.y<=q.y)&&decide (q.y<a.y))&&decide (0<Io b a q)else(decide (a.y<=q.y)&&decide (q.y<b.y))&&decide (0<Io a b q)
def oQ(l:List Pt)(q:Pt):Nat->Bool
 |0=>false
 | k+1=>oQ l q k||match l[k]?,l[k+1]? with
  |some a,some b=>nC a b q
  |_,_=>false
def iU(l:List Pt)(q:Pt)(o:Bool):Nat->Bool
 |0=>o
 |k+1=>match l[k]?,l[k+1]? with
  |some a,some b=>xor (iU l q o k) (fN a b q)
  |_,_=>iU l q o k
def wg(l:List Pt)(q:Pt):Bool:=oQ l q (l.length-1)
def mA(l:List Pt)(q:Pt)(o:Bool):Bool:=iU l q o (l.length-1)
def bU(p:Pn)(c:List Int)(q:Pt):Bool:=!(c.any fun z=>wg (bJ p z) q)&&c.foldl (fun o z=>mA (bJ p z) q o) false
section
variable {S:cZ}
theorem abw(hS:bN S){m d:Nat}{ah:bR}(hm:10<=m)(l:aS 2 Pt.c)(jD:2<=l.l.length)(q:Pt)(A:aO)(o0:Bool)(c:IV)(i:Nat){K:fP}(t:List IV)(J0:aU)(hml:l.l.length<=m)(hlb:l.l.length<=200000)(af:aN 73 t [(1,c),(3,.ptrM d 0 0),(5,.ptrM d 1 0),(7,.bool o0),(8,iv i),(9,l.v)])
  (hK:∀ t' J,wg l.l q=false->aN 73 t' [(1,c),(3,.ptrM d 0 0),(5,.ptrM d 1 0),(7,.bool (mA l.l q o0)),(8,iv i)]->K .normal ⟨t',A::aI [aG aH q.x,aG aH q.y]::J⟩)
  (hR:∀ t' O,wg l.l q=true->aN 73 t' [(6,.bool false)]->K .ret ⟨t',O⟩) :
  Ex (aM aR S m) d ah m (i170.body.sub [1,1,0,1,0,0,1,0,0,1]) K ⟨t,A::aI [aG aH q.x,aG aH q.y]::J0⟩:=by
 simp only[V3]at af
 simp only[i170,IC.sub,V0]
 refine ze (fun jj st=>∃(k:Nat)(J:aU),l.l.length-1-k<=jj/\k<=l.l.length-1/\oQ l.l q k=false/\st.aa=A::aI [aG aH q.x,aG aH q.y]::J/\aN 73 st.t [(1,c),(3,.ptrM d 0 0),(5,.ptrM d 1 0),(7,.bool (iU l.l q o0 k)),(8,iv i),(9,l.v),(10,aG aH ((k+1:Nat):Int))]) (l.l.length-1) Ω ⟨0,J0,Ω,Ω,rfl,rfl,by simp only[V0,Xa,Xe,af];trivial⟩ ?_
 clear af
 rintro jj ⟨t,aa⟩ KA ⟨k,J,hjj,hk,tW,ho,af⟩ bV cS dA
 dsimp only at ho af
 subst ho
 simp only[V3]at af
 by_cases h2:k+1<l.l.length
 rotate_left
 ·have au:(((k+1:Nat):Int)<((l.l.length:Nat):Int))=False:=eq_false Ω
  simp only[V0,Xa,Xe,af,au]
  refine cS _ _ ?_
  have e:k=l.l.length-1:=Ω
  rw[e]at tW
  have e2:iU l.l q o0 k=mA l.l q o0:=by unfold mA;rw[e]
  rw[e2]at af
  simp only[V0]
  exact hK _ J tW (by simp only[V0,Xe,af])
 have h3:k<l.l.length:=Ω
 have ha:l.l[k]?=some l.l[k]:=cK h3
 have hb:l.l[k+1]?=some l.l[k+1]:=cK h2
 generalize l.l[k]=a at ha
 generalize l.l[k+1]=b at hb
 have ra:bM (l.l.flatMap Pt.c) (k*2) 2=some [aG aH a.x,aG aH a.y]:=(zd Pt.aZ 0 2 ha Ω).trans rfl
 have rb:bM (l.l.flatMap Pt.c) ((k+1)*2) 2=some [aG aH b.x,aG aH b.y]:=(zd Pt.aZ 0 2 hb Ω).trans rfl
 have wm:aT .i64 (((k+1:Nat):Int)-1)=((k:Nat):Int):=we
 have wp:aT .i64 (((k+1:Nat):Int)+1)=((k+1+1:Nat):Int):=we
 have co:=Vx hS a b q m Ω
 have c1:=zcw hS a b q m Ω
 have c2:=zcw hS b a q m Ω
 simp only[Pt.c,zg]at co c1 c2
 have vc:oQ l.l q (k+1)=nC a b q:=by
  conv=>lhs;unfold oQ
  rw[tW,ha,hb];rfl
 have nF:iU l.l q o0 (k+1)=xor (iU l.l q o0 k) (fN a b q):=by
  conv=>lhs;unfold iU
  rw[ha,hb]
 simp only[V0,Xa,Xb,Xe,za l h3,za l h2, *]
 generalize iU l.l q o0 k=o at af nF
 cases g0:nC a b q
 rotate_left
 ·simp only[V0,Xa,Xb,Xe,af,co,g0]
  refine dA _ ?_
  simp only[V0]
  refine hR _ _ ?_ (by simp only[V0,Xa,af])
  have up:∀ n,k+1<=n->oQ l.l q n=true:=fun n hn=>by
   induction n with
   |zero=>omega
   |succ n ih =>
    by_cases hkn:k+1<=n
    ·unfold oQ
     rw[ih hkn,iY]
    ·obtain rfl:n=k:=Ω
     rw[vc,g0]
  exact up _ Ω
 rw[g0]at vc
 cases gy:decide (b.y<a.y)
 ·have hcr:fN a b q=((decide (a.y<=q.y)&&decide (q.y<b.y))&&decide (0<Io a b q)):=by unfold fN;rw[gy];rfl
  rw[hcr]at nF
  cases g1:decide (a.y<=q.y)
  ·rw[g1,ew,ew,zmr]at nF
   simp only[V0,Xa,Xb,Xe,eZ, *]
   exact bV _ (l.l.length-1-(k+1)) Ω ⟨k+1,_,Ω,Ω,vc,rfl,by simp only[V0,Xa,Xe,af,nF]⟩
  cases g2:decide (q.y<b.y)
  ·rw[g2,l8,ew,zmr]at nF
   simp only[V0,Xa,Xb,Xe,eZ, *]
   exact bV _ (l.l.length-1-(k+1)) Ω ⟨k+1,_,Ω,Ω,vc,rfl,by simp only[V0,Xa,Xe,af,nF]⟩
  cases g3:decide (0<Io a b q)
  ·rw[g3,l8,zmr]at nF
   simp only[V0,Xa,Xb,Xe,eZ, *]
   exact bV _ (l.l.length-1-(k+1)) Ω ⟨k+1,_,Ω,Ω,vc,rfl,by simp only[V0,Xa,Xe,af,nF]⟩
  ·rw[g1,g2,g3,HH,HH,Bool.xor_true]at nF
   simp only[V0,Xa,Xb,Xe,eZ, *]
   exact bV _ (l.l.length-1-(k+1)) Ω ⟨k+1,_,Ω,Ω,vc,rfl,by simp only[V0,Xa,Xe,af,nF]⟩
 ·have hcr:fN a b q=((decide (b.y<=q.y)&&decide (q.y<a.y))&&decide (0<Io b a q)):=by unfold fN;rw[gy];rfl
  rw[hcr]at nF
  cases g1:decide (b.y<=q.y)
  ·rw[g1,ew,ew,zmr]at nF
   simp only[V0,Xa,Xb,Xe,eZ, *]
   exact bV _ (l.l.length-1-(k+1)) Ω ⟨k+1,_,Ω,Ω,vc,rfl,by simp only[V0,Xa,Xe,af,nF]⟩
  cases g2:decide (q.y<a.y)
  ·rw[g2,l8,ew,zmr]at nF
   simp only[V0,Xa,Xb,Xe,eZ, *]
   exact bV _ (l.l.length-1-(k+1)) Ω ⟨k+1,_,Ω,Ω,vc,rfl,by simp only[V0,Xa,Xe,af,nF]⟩
  cases g3:decide (0<Io b a q)
  ·rw[g3,l8,zmr]at nF
   simp only[V0,Xa,Xb,Xe,eZ, *]
   exact bV _ (l.l.length-1-(k+1)) Ω ⟨k+1,_,Ω,Ω,vc,rfl,by simp only[V0,Xa,Xe,af,nF]⟩
  ·rw[g1,g2,g3,HH,HH,Bool.xor_true]at nF
   simp only[V0,Xa,Xb,Xe,eZ, *]
   exact bV _ (l.l.length-1-(k+1)) Ω ⟨k+1,_,Ω,Ω,vc,rfl,by simp only[V0,Xa,Xe,af,nF]⟩
end
theorem v7{p:Pn}(iz:bQ p)(z:Int):2<=(bJ p z).length/\(bJ p z).length<=100002:=by
 unfold bJ;cases decide (0<z)
 ·rw[bL,uF];exact yN iz _
 ·exact yN iz _
section
variable {S:cZ}
theorem MK(hS:bN S)(p:Pn)(iz:bQ p)(c:aS 1 aL)(lY:c.l.length<=1000000)(hg:∀ z∈c.l,GD p z):∃ N,∀ q:Pt,aP S N 170 [.agg p.c,c.v,.agg q.c] (.bool (bU p c.l q)):=by
 obtain⟨N1,h1⟩:∃ N,∀ z∈c.l,∃ l:aS 2 Pt.c,l.l=bJ p z/\aP S N 136 [.agg p.c,aG aH z] l.v:=Yz (P:=fun(z:Int) N=>∃ l:aS 2 Pt.c,l.l=bJ p z/\aP S N 136 [.agg p.c,aG aH z] l.v) (fun a n m hnm ⟨q,hq,h⟩=>⟨q,hq,fun m' hm'=>h m' Ω⟩) fun z hz=>by obtain⟨q,hq,N,h⟩:=xz hS p z iz (hg z hz);exact⟨N,q,hq,h⟩
 refine⟨N1+c.l.length+200001,fun q=>gv i170 hS (N1+c.l.length+200000) zj fun m hm d ah t af=>?_⟩;simp only[V2,Xb,i170,Pn.c,Pt.c,zg]at af;have sg:=fun(l:aS 2 Pt.c) jD A o0 cv i K t J0 (hlb:l.l.length<=200000) af hK hR=>@abw S hS m d ah Ω l jD q A o0 cv i K t J0 Ω hlb af hK hR;rw[show i170.body=.seq (i170.body.sub [0]) (.seq (i170.body.sub [1,0]) (.seq (.seq (i170.body.sub [1,1,0,0]) (.block 0 (.loop (.seq (.seq (i170.body.sub [1,1,0,1,0,0,0,0]) (i170.body.sub [1,1,0,1,0,0,0,1])) (.seq (.block 1 (.seq (i170.body.sub [1,1,0,1,0,0,1,0,0,0]) (i170.body.sub [1,1,0,1,0,0,1,0,0,1]))) (i170.body.sub [1,1,0,1,0,0,1,1])))))) (i170.body.sub [1,1,1])))from rfl];generalize i170.body.sub [1,1,0,1,0,0,1,0,0,1]=T at sg ⊢;simp only[i170,IC.sub,V0,Xb,Xe,af];refine ze (fun jj st=>∃(i:Nat)(J:aU),c.l.length-i<=jj/\i<=c.l.length/\((c.l.take i).any fun z=>wg (bJ p z) q)=false/\st.aa=aI [p.ns.v,p.az.v,p.fs.v]::aI [aG aH q.x,aG aH q.y]::J/\aN 73 st.t [(1,c.v),(3,.ptrM d 0 0),(5,.ptrM d 1 0),(7,.bool ((c.l.take i).foldl (fun o z=>mA (bJ p z) q o) false)),(8,iv i)]) c.l.length Ω ⟨0,[],Ω,Ω,rfl,rfl,by simp only[V0,Xa,Xe,af,eU];rfl⟩ ?_;clear af;rintro jj ⟨t,aa⟩ KA ⟨i,J,hjj,hi,tW,ho,af⟩ bV cS dA;dsimp only at ho af;subst ho;simp only[V3]at af;by_cases h:i<c.l.length;rotate_left
 ·simp only[V0,Xa,Xe,af,h];refine cS _ _ ?_;have e:c.l.take i=c.l:=gj Ω;rw[e]at tW;have hv:bU p c.l q=(c.l.take i).foldl (fun o z=>mA (bJ p z) q o) false:=by unfold bU;rw[tW,e];rfl
  simp only[V0,Xa,Xe,af,hv]
 have hx:c.l[i]?=some c.l[i]:=cK h;have hmem:=gU h;generalize c.l[i]=z at hx hmem;obtain⟨l,hl,cl⟩:=h1 z hmem;have cl:=cl m Ω;simp only[Pn.c]at cl;have hpl:=v7 iz z;rw[←hl]at hpl;have kM:bM (c.l.flatMap aL) (i*1) 1=some [aG aH z]:=zd zf 0 1 hx Ω;have hw:=zq i;have hst:(c.l.take (i+1)).foldl (fun o z=>mA (bJ p z) q o) false=mA l.l q ((c.l.take i).foldl (fun o z=>mA (bJ p z) q o) false):=by rw[zt hx,zmo,hl];rfl
 have agu:((c.l.take (i+1)).any fun z=>wg (bJ p z) q)=wg l.l q:=by rw[zt hx,SR,tW,iS,hl];simp
 generalize(c.l.take i).foldl (fun o z=>mA (bJ p z) q o) false=o at af hst;simp only[V0,Xa,Xe,af,h,za c h,kM,cl];refine sg l hpl.1 _ o c.v i _ _ _ Ω (by simp only[V0,Xa,Xe,af]) (fun t' J' hoff ht=>?_) (fun t' O' hoff ht=>?_)
 ·simp only[V3]at ht;simp only[V0,Xa,ht,hw];exact bV _ (c.l.length-(i+1)) Ω ⟨i+1,J',Ω,Ω,agu.trans hoff,rfl,by simp only[V0,Xa,Xe,ht,hst]⟩
 ·simp only[zb,zc]at ht;simp only[V0];refine dA _ ?_;have hv:bU p c.l q=false:=by
   unfold bU;have:(c.l.any fun z=>wg (bJ p z) q)=true:=by rw[rR];exact⟨z,hmem,by rw[←hl];exact hoff⟩
   rw[this];rfl
  simp only[V0,ht,hv]
end
def fE(ins:Nat->Bool)(tw:Nat->Int):Nat->Int
 |0=>-1
 | i+1=>if (ins i&&(decide (fE ins tw i<0)||decide (tw i<tw (fE ins tw i).toNat)))=true then(i:Int)else fE ins tw i
theorem Y8{ins:Nat->Bool}{tw:Nat->Int}:∀ n,-1<=fE ins tw n/\fE ins tw n<n
 |0=>by simp[fE]
 |n+1=>by have:=Y8 (ins:=ins) (tw:=tw) n;unfold fE;split<;>omega
def RV(p:Pn)(os:List (List Int))(q:Pt):Int:=fE (fun i=>bU p ((os[i]?).getD []) q) (fun i=>gq p ((os[i]?).getD [])) os.length
section
variable {S:cZ}
theorem Hq(hS:bN S)(p:Pn)(iz:bQ p)(os:aS 1 ia)(hol:os.l.length<=1000)(hg:∀ c∈os.l,c.l.length<=512/\∀ z∈c.l,GD p z):∃ N,∀ q:Pt,aP S N 135 [.agg p.c,os.v,.agg q.c] (aG aH (RV p (os.l.map (·.l)) q)):=by
 obtain⟨N1,h1⟩:∃ N,∀ c∈os.l,∀ q:Pt,aP S N 170 [.agg p.c,c.v,.agg q.c] (.bool (bU p c.l q)):=Yz (P:=fun(c:aS 1 aL) N=>∀ q:Pt,aP S N 170 [.agg p.c,c.v,.agg q.c] (.bool (bU p c.l q))) (fun a n m hnm h q m' hm'=>h q m' Ω) fun c hc=>MK hS p iz c (by have:=(hg c hc).1;omega) (hg c hc).2;obtain⟨N2,h2⟩:∃ N,∀ c∈os.l,aP S N 134 [.agg p.c,c.v] (aG aH (gq p c.l)):=Yz (P:=fun(c:aS 1 aL) N=>aP S N 134 [.agg p.c,c.v] (aG aH (gq p c.l))) (fun a n m hnm h m' hm'=>h m' Ω) fun c hc=>zcv hS p iz c (hg c hc).1 fun z hz=>by obtain⟨_,_,a,b,c,_⟩:=XR ((hg c hc).2 z hz);exact⟨a,b,c⟩
 refine⟨N1+N2+os.l.length+31,fun q=>gv i135 hS (N1+N2+os.l.length+30) zn fun m hm d ah t af=>?_⟩;simp only[V2,Xb,i135,Pn.c,Pt.c,zg]at af;have hml:(os.l.map (·.l)).length=os.l.length:=ig ..;have fU:∀(i:Nat)(c:aS 1 aL),os.l[i]?=some c->((os.l.map (·.l))[i]?).getD []=c.l:=fun i c hc=>by rw[k9,hc];rfl
 unfold RV;rw[hml];generalize hins:(fun(i:Nat)=>bU p (((os.l.map (·.l))[i]?).getD []) q)=ins;generalize u9:(fun(i:Nat)=>gq p (((os.l.map (·.l))[i]?).getD []))=tw;have e1:∀(i:Nat)(c:aS 1 aL),os.l[i]?=some c->bU p c.l q=ins i:=fun i c hc=>by rw[←hins];simp only[fU i c hc]
 have e2:∀(i:Nat)(c:aS 1 aL),os.l[i]?=some c->gq p c.l=tw i:=fun i c hc=>by rw[←u9];simp only[fU i c hc]
 simp only[i135,V0,Xb,Xe,af];refine ze (fun jj st=>∃(i:Nat)(J:aU),os.l.length-i<=jj/\i<=os.l.length/\st.aa=aI [p.ns.v,p.az.v,p.fs.v]::aI [aG aH q.x,aG aH q.y]::J/\aN 43 st.t [(1,os.v),(3,.ptrM d 0 0),(5,.ptrM d 1 0),(7,aG aH (fE ins tw i)),(8,iv i)]) os.l.length Ω ⟨0,[],Ω,Ω,rfl,by simp only[V0,Xa,Xe,af,eU];rfl⟩ ?_;clear af;rintro jj ⟨t,aa⟩ KA ⟨i,J,hjj,hi,ho,af⟩ bV cS dA;dsimp only at ho af;subst ho;simp only[V3]at af;by_cases h:i<os.l.length;rotate_left
 ·simp only[V0,Xa,Xe,af,h];refine cS _ _ ?_;obtain rfl:i=os.l.length:=Ω;simp only[V0,Xa,Xe,af]
 have hx:os.l[i]?=some os.l[i]:=cK h;have hmem:=gU h;generalize os.l[i]=c at hx hmem;have ci:=h1 c hmem q m Ω;have ct:=h2 c hmem m Ω;rw[e1 i c hx]at ci;rw[e2 i c hx]at ct;simp only[Pn.c,Pt.c,zg]at ci ct;have kM:bM (os.l.flatMap ia) (i*1) 1=some [c.v]:=zd zr 0 1 hx Ω;have hw:=zq i;have hst:fE ins tw (i+1)=if (ins i&&(decide (fE ins tw i<0)||decide (tw i<tw (fE ins tw i).toNat)))=true then(i:Int)else fE ins tw i:=rfl
 have hbd:=Y8 (ins:=ins) (tw:=tw) i;generalize fE ins tw i=b at af hst hbd;cases g1:ins i
 ·rw[g1,ew,bC Δ]at hst;simp only[V0,Xa,Xe,za os h,Xb, *];exact bV _ (os.l.length-(i+1)) Ω ⟨i+1,_,Ω,Ω,rfl,by simp only[V0,Xa,Xe,af,hst]⟩
 ·cases g2:decide (b<0)
  ·rw[g1,g2,pX,iS]at hst;have hb0:¬ b<0:=of_decide_eq_false g2;obtain⟨k,rfl⟩:∃ k:Nat,b=k:=⟨b.toNat,Ω⟩;rw[Int.toNat_natCast]at hst;have hk:k<os.l.length:=Ω;have hy:os.l[k]?=some os.l[k]:=cK hk;have hmk:=gU hk;generalize os.l[k]=c2 at hy hmk;have ct2:=h2 c2 hmk m Ω;rw[e2 k c2 hy]at ct2;simp only[Pn.c]at ct2;have va:bM (os.l.flatMap ia) (k*1) 1=some [c2.v]:=zd zr 0 1 hy Ω;cases g3:decide (tw i<tw k)
   ·rw[g3,bC Δ]at hst;simp only[V0,Xa,Xe,za os h,za os hk,ct,Xb, *];exact bV _ (os.l.length-(i+1)) Ω ⟨i+1,_,Ω,Ω,rfl,by simp only[V0,Xa,Xe,af,hst]⟩
   ·rw[g3,bt rfl]at hst;simp only[V0,Xa,Xe,za os h,za os hk,ct,Xb, *];exact bV _ (os.l.length-(i+1)) Ω ⟨i+1,_,Ω,Ω,rfl,by simp only[V0,Xa,Xe,af,hst]⟩
  ·rw[g1,g2,iY,HH,bt rfl]at hst;simp only[V0,Xa,Xe,za os h,Xb, *];exact bV _ (os.l.length-(i+1)) Ω ⟨i+1,_,Ω,Ω,rfl,by simp only[V0,Xa,Xe,af,hst]⟩
def cE(p:Pn)(c:List Int)(f:Int):Bool:=c.all fun z=>e8 p z==f
theorem EJ(hS:bN S)(p:Pn)(iz:bQ p)(c:aS 1 aL)(lY:c.l.length<=1000000):∃ N,∀ f:Int,aP S N 93 [.agg p.c,c.v,aG aH f] (.bool (cE p c.l f)):=by
 obtain⟨N1,h1⟩:∃ N,∀ z∈c.l,aP S N 91 [.agg p.c,aG aH z] (aG aH (e8 p z)):=Yz (P:=fun(z:Int) N=>aP S N 91 [.agg p.c,aG aH z] (aG aH (e8 p z))) (fun a n m hnm h m' hm'=>h m' Ω) fun z _=>J7 hS p z iz;refine⟨N1+c.l.length+31,fun f=>gv i93 hS (N1+c.l.length+30) zj fun m hm d ah t af=>?_⟩;simp only[V2,Xb,i93,Pn.c]at af;simp only[i93,V0,af];refine ze (fun jj st=>∃(i:Nat)(J:aU),c.l.length-i<=jj/\i<=c.l.length/\((c.l.take i).all fun z=>e8 p z==f)=true/\st.aa=aI [p.ns.v,p.az.v,p.fs.v]::J/\aN 22 st.t [(1,c.v),(2,aG aH f),(3,.ptrM d 0 0),(7,iv i)]) c.l.length Ω ⟨0,[],Ω,Ω,rfl,rfl,by simp only[V0,Xa,Xe,af,eU]⟩ ?_;clear af;rintro jj ⟨t,aa⟩ KA ⟨i,J,hjj,hi,hall,ho,af⟩ bV cS dA;dsimp only at ho af;subst ho;simp only[V3]at af;by_cases h:i<c.l.length;rotate_left
 ·simp only[V0,Xa,Xe,af,h];refine cS _ _ ?_;have e:c.l.take i=c.l:=gj Ω;rw[e]at hall;have hv:cE p c.l f=true:=hall;simp only[V0,Xa,af,hv]
 have hx:c.l[i]?=some c.l[i]:=cK h;have hmem:=gU h;generalize c.l[i]=z at hx hmem;have cz:=h1 z hmem m Ω;simp only[Pn.c]at cz;have kM:bM (c.l.flatMap aL) (i*1) 1=some [aG aH z]:=zd zf 0 1 hx Ω;have hw:=zq i;cases g:e8 p z==f
 ·have hne:(e8 p z != f)=true:=by rw[show(e8 p z != f)=!(e8 p z==f)from rfl,g];rfl
  simp only[V0,Xa,Xe,za c h, *];refine dA _ ?_;have hv:cE p c.l f=false:=by rw[←sZ];intro hc;have:=ot.1 hc z hmem;rw[g]at this;cases this
  simp only[V0,Xa,af,hv]
 ·have hne:(e8 p z != f)=false:=by rw[show(e8 p z != f)=!(e8 p z==f)from rfl,g];rfl
  simp only[V0,Xa,Xe,za c h, *];exact bV _ (c.l.length-(i+1)) Ω ⟨i+1,_,Ω,Ω,by rw[zt hx,Xy,hall,pX];simpa using g,rfl,by simp only[V0,Xa,Xe,af]⟩
end
section
variable {β:Type} (kf tw:β->Int)
def ij(x:β)(l:List β):Nat->Nat
 |0=>0
 |k+1=>match l[k]? with
  |some y=>if mo (kf x) (kf y)=true then ij x l k else k+1
  |none=>k+1
def rZ(x:β)(l:List β):List β:=l.take (ij kf x l l.length)++x::l.drop (ij kf x l l.length)
def lg:List β->List β->List β
 |[],o=>o
 |c::cs,o=>if tw c<=0 then lg cs o else lg cs (rZ kf c o)
variable {kf tw}
theorem wA{x:β}{l:List β}:∀ k,ij kf x l k<=k
 |0=>dz _
 |k+1=>by
  have:=wA (x:=x) (l:=l) k;unfold ij;split
  ·split<;>omega
  ·omega
theorem Dx{x:β}{l:List β}:(rZ kf x l).length=l.length+1:=by have:=wA (kf:=kf) (x:=x) (l:=l) l.length;unfold rZ;rw[eR,cu,k8,tD];omega
theorem zcx:∀(cs o:List β),(lg kf tw cs o).length<=o.length+cs.length
 |[],o=>by simp[lg]
 |c::cs,o=>by
  unfold lg;split
  ·have:=zcx cs o;rw[cu];omega
  ·have:=zcx cs (rZ kf c o);rw[Dx]at this;rw[cu];omega
theorem zat:∀(cs o:List β),(lg kf tw cs o).Perm (o++cs.filter fun c=>decide (0<tw c))
 |[],o=>by simp[lg]
 |c::cs,o=>by
  unfold lg;split
  ·rename_i h;have e:decide (0<tw c)=false:=decide_eq_false Ω;rw[BX,e,bC Δ];exact zat cs o
  ·rename_i h;have e:decide (0<tw c)=true:=decide_eq_true Ω;rw[BX,e,bt rfl];refine(zat cs _).trans ?_;unfold rZ;rw[kR,gQ];have h1:(o.take (ij kf c o o.length)++c::(o.drop (ij kf c o o.length)++cs.filter fun c=>decide (0<tw c))).Perm (c::(o.take (ij kf c o o.length)++(o.drop (ij kf c o o.length)++cs.filter fun c=>decide (0<tw c)))):=List.perm_middle;refine h1.trans ?_;rw[←kR,Fu];exact List.perm_middle.symm
end
section
variable {α:Type} {g:α->List IV} {sz:Nat}
theorem T4(hs:∀ a,(g a).length=sz){d:Nat}{ah:bR}{Q:aU}{A0:aO}{lv:IV}{xs ys:List α}(pV:Q[0]?=some A0)(h:(xs=[]/\lv=.nilsl)∨∃ B,0<B/\xs≠[]/\lv=.slM d B 0 xs.length xs.length sz false/\Q[B]?=some (aI (xs.flatMap g)))(hy:ys.length≠0)(hx:xs.length+ys.length<=1073741824)(hsc:(ys.flatMap g).all IV.scalar=true) :
  ∃ e Q',bh d Q.length (look d ah (Q++[.free])) (Q++[.free]) sz lv (ys.flatMap g) ys.length 0=some (e,.slM d Q.length 0 (xs.length+ys.length) (xs.length+ys.length) sz false,Q')/\Q'[0]?=some A0/\Q'[Q.length]?=some (aI ((xs++ys).flatMap g))/\0<Q.length:=by
 have h0:=(cU.1 pV).1
 have hfree:(Q++[aO.free])[Q.length+0]?=some .free:=by rw[sY,jd (dz _),rM];rfl
 rcases h with⟨rfl,rfl⟩|⟨B,hB,hne,rfl,hb⟩
 ·rw[yT hy (by unfold bound;simp at hx;omega)]
  unfold dU
  rw[hfree]
  simp only[zi,sY]
  refine⟨_,_,by rw[dw,fO],?_,?_,h0⟩
  ·rw[nr Ω,gT h0]
   exact pV
  ·rw[oa Ψ]
   rfl
 ·have sW:=(cU.1 hb).1
  rw[zY hy hx (zl hs) hsc (by unfold look;rw[bt rfl,gT sW];exact hb)]
  unfold kW
  rw[hfree]
  simp only[zi,sY]
  refine⟨_,_,rfl,?_,?_,h0⟩
  ·rw[nr Ω,nr Ω,gT h0]
   exact pV
  ·rw[oa Ψ,B6]
end
theorem YU{Q:aU}{b:Nat}{o:aO}(h:Q[b]?=some o)(R:aU):(Q++R)[b]?=some o:=by rw[gT (cU.1 h).1];exact h
section
variable {S:cZ}
theorem Vv(hS:bN S){m d:Nat}{ah:bR}(A0:aO)(cs:aS 1 ia)(c:aS 1 aL)(i:Nat)(Nj:cs.l[i]?=some c)(l:List (aS 1 aL))(hl:l.length<=100000)(hm:l.length+20<=m)(hkey:∀ x∈c::l,∀ d ah aK aa id,aM aR S m d ah aK aa id 163 [x.v]=some (.r,aG aH (kX x.l),aa)){K:fP}(t:List IV)(Q:aU)(B:Nat)(hB:0<B)(pV:Q[0]?=some A0)(hQ:Q[B]?=some (aI ((l++[c]).flatMap ia)))
  (af:aN 69 t [(1,.ptrM d 0 0),(3,cs.v),(5,.slM d B 0 (l.length+1) (l.length+1) 1 false),(6,iv i),(7,iv (l.length:Nat))])
  (hK:∀ t' Q',Q'[0]?=some A0->Q'[B]?=some (aI ((rZ (fun x:aS 1 aL=>kX x.l) c l).flatMap ia))->aN 69 t' [(1,.ptrM d 0 0),(3,cs.v),(5,.slM d B 0 (l.length+1) (l.length+1) 1 false),(6,iv i)]->K .normal ⟨t',Q'⟩) :
  Ex (aM aR S m) d ah m (i132.body.sub [1,1,1,0,1,0,0,1,0,0,1,1,1]) K ⟨t,Q⟩:=by
 simp only[V3]at af
 have hii:=(cU.1 Nj).1
 have hrc:bM (cs.l.flatMap ia) (i*1) 1=some [c.v]:=zd zr 0 1 Nj Ω
 have kc:=hkey c (kB ..)
 have UW:∀ k (y:aS 1 aL),k<=l.length->(l.take k++y::l.drop k).length=l.length+1:=fun k y hk=>by rw[eR,cu,k8,tD];omega
 have UU:∀ k (y z:aS 1 aL),k<=l.length->(l.take k++y::l.drop k).set k z=l.take k++z::l.drop k:=fun k y z hk=>by
  have hlk:(l.take k).length=k:=by rw[k8,qu hk]
  rw[Fc _ _ Ω,hlk,rM];rfl
 have UX:∀ k (y:aS 1 aL),k<=l.length->(l.take k++y::l.drop k)[k]?=some y:=fun k y hk=>by
  have hlk:(l.take k).length=k:=by rw[k8,qu hk]
  rw[jd Ω,hlk,rM];rfl
 have Q5:∀ k (y z:aS 1 aL),k<=l.length->gV ((l.take k++y::l.drop k).flatMap ia) (k*1) [z.v]=(l.take k++z::l.drop k).flatMap ia:=fun k y z hk=>by have:=ZH (x':=z) (vs:=[z.v]) (k:=0) zr (UX k y hk) Ψ rfl;rw[sY]at this;rw[this,UU k y z hk]
 have JP:∀ k (y:aS 1 aL),k<=l.length->k*1+1<=((l.take k++y::l.drop k).flatMap ia).length:=fun k y hk=>by rw[zl zr,UW k y hk];omega
 simp only[i132,IC.sub,V0]
 refine ze (fun jj st=>∃(k:Nat)(y:aS 1 aL),k<=jj/\k<=l.length/\ij (fun x:aS 1 aL=>kX x.l) c l k=ij (fun x:aS 1 aL=>kX x.l) c l l.length/\st.aa[0]?=some A0/\st.aa[B]?=some (aI ((l.take k++y::l.drop k).flatMap ia))/\aN 69 st.t [(1,.ptrM d 0 0),(3,cs.v),(5,.slM d B 0 (l.length+1) (l.length+1) 1 false),(6,iv i),(7,iv k)]) l.length Ω ⟨l.length,c,dz _,dz _,rfl,pV,by rw[E7,List.drop_length];exact hQ,by simp only[V0,af]⟩ ?_
 clear af pV hQ
 rintro jj ⟨t,Q⟩ KA ⟨k,y,hjj,hk,hpos,pV,hQ,af⟩ bV cS dA
 dsimp only at pV hQ
 simp only[V3]at af
 have fin:∀(t:List IV)(Q:aU),Q[0]?=some A0->Q[B]?=some (aI ((l.take k++y::l.drop k).flatMap ia))->k=ij (fun x:aS 1 aL=>kX x.l) c l l.length->aN 69 t [(1,.ptrM d 0 0),(3,cs.v),(5,.slM d B 0 (l.length+1) (l.length+1) 1 false),(6,iv i),(7,iv k)]->KA (.exit 2) ⟨t,Q⟩:=by
  clear af bV dA pV hQ t Q;intro t Q pV hQ hkp af;simp only[V3]at af;refine cS _ _ ?_;have nP:k<l.length+1:=Ω;have w1:=Q5 k y c hk;have w2:=JP k y hk;have w3:l.take k++c::l.drop k=rZ (fun x:aS 1 aL=>kX x.l) c l:=by unfold rZ;rw[←hkp]
  simp only[V0,Xa,Xe,af,za cs hii,hrc,zm,nP,hQ,w1,w2];refine hK _ _ ?_ ?_ ?_
  ·rw[nr Ω];exact pV
  ·rw[w3,oa (cU.1 hQ).1]
  ·simp only[V0,Xe,af]
 rcases k with -|k
 ·have hg0:decide (((0:Nat):Int)>0)=false:=rfl
  simp only[V0,Xa,Xe,af,hg0]
  exact fin _ _ (YU pV _) (YU hQ _) hpos (by simp only[V0,Xe,af,eU])
 have hk0:k<l.length:=Ω
 have nP:k<l.length+1:=Ω
 have hk1:k+1<l.length+1:=Ω
 have hx:l[k]?=some l[k]:=cK hk0
 have hmem:=gU hk0
 generalize l[k]=x at hx hmem
 have kx:=hkey x (nk _ hmem)
 have hcx:(l.take (k+1)++y::l.drop (k+1))[k]?=some x:=by rw[gT (by rw[k8];omega),zlf Ω];exact hx
 have kM:bM ((l.take (k+1)++y::l.drop (k+1)).flatMap ia) (k*1) 1=some [x.v]:=zd zr 0 1 hcx Ω
 have hgt:((0:Int)<((k+1:Nat):Int)):=Ω
 have hw:aT .i64 (((k+1:Nat):Int)-1)=((k:Nat):Int):=we
 have cb:=fun d ah aK aa i=>xC hS (kX c.l) (kX x.l) m Ω d ah aK aa i
 have hho:∀ vis R,(b7 vis Q.length (Q++R))[B]?=some (aI ((l.take (k+1)++y::l.drop (k+1)).flatMap ia)):=fun vis R=>Yt hQ vis R
 have hst:ij (fun x:aS 1 aL=>kX x.l) c l (k+1)=if mo (kX c.l) (kX x.l)=true then ij (fun x:aS 1 aL=>kX x.l) c l k else k+1:=by
  conv=>lhs;unfold ij
  rw[hx]
 cases g:mo (kX c.l) (kX x.l)
 ·rw[g,bC Δ]at hst
  simp only[V0,Xa,Xe,af,za cs hii,hrc,zm,nP,kM,hw,kc,kx,cb,g,eZ,hgt,hho]
  refine fin _ _ (YU pV _) (YU hQ _) (by rw[←hpos,hst]) ?_
  simp only[V0,Xe,af]
 ·rw[g,bt rfl]at hst
  have w1:=Q5 (k+1) y x hk
  have w2:=JP (k+1) y hk
  simp only[V0,Xa,Xe,af,za cs hii,hrc,zm,nP,kM,hw,kc,kx,cb,g,eZ,hgt,hho,Xb,hk1,YU hQ,w1,w2]
  have e1:l.take (k+1)++x::l.drop (k+1)=l.take k++x::l.drop k:=by rw[lH,hx,HM hk0];rw[cK hk0]at hx;rw[kT hx];simp
  refine bV _ k Ω ⟨k,x,dz _,Ω,by rw[←hpos,hst],?_,?_,by simp only[V0,Xa,Xe,af]⟩
  ·dsimp only
   rw[nr Ω]
   exact YU pV _
  ·dsimp only
   rw[←e1,oa (cU.1 (YU hQ _)).1]
end
section
variable {β γ:Type} {kf tw:γ->Int} {f:β->γ}
theorem zfw{x:β}{l:List β}:∀ k,ij kf (f x) (l.map f) k=ij (fun z=>kf (f z)) x l k
 |0=>rfl
 |k+1=>by
  have:=zfw (x:=x) (l:=l) k;unfold ij;rw[k9];cases l[k]? with
  |none=>rfl
  |some y=>dsimp only[Option.map_some];rw[this]
theorem Pw{x:β}{l:List β}:rZ kf (f x) (l.map f)=(rZ (fun z=>kf (f z)) x l).map f:=by unfold rZ;rw[ig,zfw,E6,nK,List.map_take,List.map_drop]
theorem zcy:∀(cs o:List β),lg kf tw (cs.map f) (o.map f)=(lg (fun z=>kf (f z)) (fun z=>tw (f z)) cs o).map f
 |[],_=>rfl
 |c::cs,o=>by
  rw[nK];unfold lg;split
  ·exact zcy cs o
  ·rw[Pw];exact zcy cs _
theorem LK{x:β}{l:List β}{kf:β->Int}:(rZ kf x l).Perm (x::l):=by unfold rZ;refine List.perm_middle.trans ?_;rw[Fu]
end
def bz(p:Pn):List (List Int):=lg kX (gq p) (aW p) []
theorem yH(p:Pn):(bz p).Perm ((aW p).filter fun c=>decide (0<gq p c)):=by have:=zat (kf:=kX) (tw:=gq p) (aW p) [];rwa [gM]at this
section
variable {S:cZ}
theorem MI(hS:bN S)(p:Pn)(iz:bQ p)(ha:p.az.l.length<=200)(hn:p.ns.l.length<=200)(hok:∀ n∈p.ns.l,∀ z∈bB p n.id,iw p z)(hE:jf p=0)(hg:∀ c∈aW p,c.length<=512/\c≠[]/\∀ z∈c,GD p z):∃ os:aS 1 ia,os.l.map (·.l)=bz p/\∃ N,aP S N 132 [.agg p.c] os.v:=by
 obtain⟨cs,hcs,N0,h0⟩:=xB hS p iz ha hn hok hE;have hg':∀ c∈cs.l,c.l.length<=512/\c.l≠[]/\∀ z∈c.l,GD p z:=fun c hc=>hg _ (by rw[←hcs];exact HJ hc);have lY:cs.l.length<=1000:=by
  have h:=ep List.length hcs;rw[ig]at h;have h2:=yP (bZ (bS p) (bW p)) id (aY p) [] [];have hdl:(aY p).length<=400:=by unfold aY;rw[eR,ig,ig,uF];omega
  unfold aW at h;rw[dw]at h2;omega
 obtain⟨N2,h2⟩:∃ N,∀ c∈cs.l,aP S N 134 [.agg p.c,c.v] (aG aH (gq p c.l)):=Yz (P:=fun(c:aS 1 aL) N=>aP S N 134 [.agg p.c,c.v] (aG aH (gq p c.l))) (fun a n m hnm h m' hm'=>h m' Ω) fun c hc=>zcv hS p iz c (hg' c hc).1 fun z hz=>by obtain⟨_,_,a,b,c,_⟩:=XR ((hg' c hc).2.2 z hz);exact⟨a,b,c⟩
 generalize hT:lg (fun x:aS 1 aL=>kX x.l) (fun x:aS 1 aL=>gq p x.l) cs.l []=T;have hTl:T.length<=1000:=by have:=zcx (kf:=fun x:aS 1 aL=>kX x.l) (tw:=fun x:aS 1 aL=>gq p x.l) cs.l [];rw[hT,dw]at this;omega
 have hlim:T.length<9223372036854775808:=Ω;have hmap:T.map (·.l)=bz p:=by have h:=zcy (kf:=kX) (tw:=gq p) (f:=fun x:aS 1 aL=>x.l) cs.l [];rw[hT]at h;unfold bz;rw[←hcs,←h];rfl
 refine⟨eX zr T hlim,by rw[yg];exact hmap,N0+N2+3000,sX i132 hS (N0+N2+2999) fun m hm d ah t af=>?_⟩;simp only[slotsOf,zb,zc,i132,Pn.c]at af;have c0:=h0 m Ω;simp only[Pn.c]at c0;have hkey:∀ x∈cs.l,∀ d ah aK aa id,aM aR S m d ah aK aa id 163 [x.v]=some (.r,aG aH (kX x.l),aa):=fun x hx d ah aK aa id=>abx hS x (hg' x hx).2.1 m (by have:=(hg' x hx).1;omega) d ah aK aa id;have pf:=fun A0 c i Nj l hl hm hkey K t Q B hB pV hQ af hK=>@Vv S hS m d ah A0 cs c i Nj l hl hm hkey K t Q B hB pV hQ af hK;rw[show i132.body=.seq (i132.body.sub [0]) (.seq (i132.body.sub [1,0]) (.seq (i132.body.sub [1,1,0]) (.seq (.seq (i132.body.sub [1,1,1,0,0]) (.block 0 (.loop (.seq (.seq (i132.body.sub [1,1,1,0,1,0,0,0,0]) (i132.body.sub [1,1,1,0,1,0,0,0,1])) (.seq (.block 1 (.seq (i132.body.sub [1,1,1,0,1,0,0,1,0,0,0]) (.seq (i132.body.sub [1,1,1,0,1,0,0,1,0,0,1,0]) (.seq (i132.body.sub [1,1,1,0,1,0,0,1,0,0,1,1,0]) (i132.body.sub [1,1,1,0,1,0,0,1,0,0,1,1,1]))))) (i132.body.sub [1,1,1,0,1,0,0,1,1])))))) (.seq (i132.body.sub [1,1,1,1,0]) .ret))))from rfl];generalize i132.body.sub [1,1,1,0,1,0,0,1,0,0,1,1,1]=U at pf ⊢;simp only[i132,IC.sub,V0,Xa,Xb,Xe,af,c0,bg];refine ze (fun jj st=>∃(i:Nat)(ov:IV)(o:List (aS 1 aL)),cs.l.length-i<=jj/\i<=cs.l.length/\lg (fun x:aS 1 aL=>kX x.l) (fun x:aS 1 aL=>gq p x.l) (cs.l.drop i) o=T/\o.length<=i/\(∀ x∈o,x∈cs.l)/\st.aa[0]?=some (aI [p.ns.v,p.az.v,p.fs.v])/\((o=[]/\ov=.nilsl)∨∃ B,0<B/\o≠[]/\ov=.slM d B 0 o.length o.length 1 false/\st.aa[B]?=some (aI (o.flatMap ia)))/\aN 69 st.t [(1,.ptrM d 0 0),(3,cs.v),(5,ov),(6,iv i)]) cs.l.length Ω ⟨0,.nilsl,[],Ω,Ω,hT,Ψ,Ψ,rfl,.inl ⟨rfl,rfl⟩,by simp only[V0,Xa,Xe,af,eU]⟩ ?_;clear af;rintro jj ⟨t,Q⟩ KA ⟨i,ov,o,hjj,hi,l5,hol,hsub,pV,hO,af⟩ bV cS dA;dsimp only at pV hO af;simp only[V3]at af;by_cases h:i<cs.l.length;rotate_left
 ·simp only[V0,Xa,Xe,af,h];refine cS _ _ ?_;rw[VP Ω]at l5;unfold lg at l5;subst l5;obtain⟨m,rfl⟩:=me m 5;obtain⟨J,rfl⟩:∃ J,Q=aO.cells [p.ns.v,p.az.v,p.fs.v]::J:=by
   cases Q with
   |nil=>simp at pV
   |cons a J=>exact⟨J,by rw[qU]at pV;rw[kT pV]⟩
  have dX:∃ B,eC ia 1 d 1 B 1 J ov o:=by
   rcases hO with⟨rfl,rfl⟩|⟨B,hB,hne,rfl,hb⟩
   ·exact⟨fun _=>0,.inl ⟨rfl,rfl⟩⟩
   ·obtain⟨b,rfl⟩:∃ b,B=1+b:=⟨B-1,Ω⟩;rw[qv,jP]at hb;exact⟨fun _=>1,.inr ⟨b,hne,rfl,hb,rfl⟩⟩
  obtain⟨B,dX⟩:=dX;have f1:freeze (m+5) d (aI [p.ns.v,p.az.v,p.fs.v]::J) ov=some (eX zr o hlim).v:=ZW (Pre:=[_]) zr rfl (fun a x hx m' hm' _ _=>GX a x hx m' Ω _ _) hlim dX;simp only[V0,Xa,Xe,af];exact⟨_,rfl,f1⟩
 have hx:cs.l[i]?=some cs.l[i]:=cK h;have hmem:=gU h;have rA:cs.l.drop i=cs.l[i]::cs.l.drop (i+1):=HM h;rw[rA]at l5;generalize cs.l[i]=c at hx l5 hmem;have kM:bM (cs.l.flatMap ia) (i*1) 1=some [c.v]:=zd zr 0 1 hx Ω;have hw:=zq i;have ct:=h2 c hmem m Ω;simp only[Pn.c]at ct;have hh0:∀ vis R,(b7 vis Q.length (Q++R))[0]?=some (aI [p.ns.v,p.az.v,p.fs.v]):=fun vis R=>Yt pV vis R;unfold lg at l5;cases g:decide (gq p c.l<=0)
 ·have g':¬ gq p c.l<=0:=of_decide_eq_false g;rw[bC g']at l5;obtain ⟨e,Q',b9,ahk,hQB,au⟩:=T4 (d:=d) (ah:=ah) (ys:=[c]) zr (YU pV [.free]) (lv:=ov) (xs:=o) (by
   rcases hO with h|⟨B,hB,hne,h1,h2⟩
   ·exact .inl h
   ·exact .inr ⟨B,hB,hne,h1,YU h2 _⟩) Ψ (by simp only [cu,dw]; omega) (by simp [ia,Zp])
  simp only[cu,dw,fO,ia,fJ,lz,iL,gQ,gM,kR,eR]at b9;simp only[V0,Xa,Xe,za cs h,ct, *];have hlen:∀ d2 ah aK aa,jL d2 ah aK aa 1 ov=some (.p,aG aH (o.length:Nat),aa):=fun d2 ah aK aa=>by
   rcases hO with⟨rfl,rfl⟩|⟨B,hB,hne,rfl,h2⟩
   ·exact zbg
   ·exact Zd
  simp only[V0,Xa,Xe,af,hlen,za cs h,kM,zh,zk,zo,Qs,Zv,b9];rw[eR,cu,dw]at hQB;refine pf (aI [p.ns.v,p.az.v,p.fs.v]) c i hx o Ω Ω (fun x hx2=>hkey x (by
   rcases fF.1 hx2 with rfl|hx2
   ·exact hmem
   ·exact hsub _ hx2)) _ _ Q' (Q.length+1) Ω ahk hQB (by simp only [V0,Xa,Xb,Xc,Xd,Xe,reduceCtorEq,af]) fun t' Q2 h0 hB ht'=>?_
  clear af;simp only[V3]at ht';simp only[V0,Xa,ht',hw];have hin:=LK (kf:=fun x:aS 1 aL=>kX x.l) (x:=c) (l:=o);have P7:=Dx (kf:=fun x:aS 1 aL=>kX x.l) (x:=c) (l:=o);refine bV _ (cs.l.length-(i+1)) Ω ⟨i+1,_,_,Ω,Ω,l5,Ω,fun x hx2=>?_,h0,.inr ⟨Q.length+1,Ω,fun e=>?_,rfl,hB⟩,by simp only[V0,Xa,Xe,ht',P7]⟩
  ·rcases fF.1 (hin.mem_iff.1 hx2)with rfl|h
   ·exact hmem
   ·exact hsub _ h
  ·rw[e]at P7;simp at P7
 ·have g':gq p c.l<=0:=of_decide_eq_true g;rw[bt g']at l5;simp only[V0,Xa,Xe,za cs h,ct, *];refine bV _ (cs.l.length-(i+1)) Ω ⟨i+1,ov,o,Ω,Ω,l5,Ω,hsub,YU pV _,?_,by simp only[V0,Xa,Xe,af]⟩;rcases hO with h|⟨B,hB,hne,h1,h2⟩
  ·exact .inl h
  ·exact .inr ⟨B,hB,hne,h1,YU h2 _⟩
end
theorem IW{ds nx:List Int}(hn:ds.Nodup){i:Nat}{z y:Int}(hz:ds[i]?=some z)(hy:nx[i]?=some y):∀ k,i<k->u5 ds nx z k=y
 |0,h=>by omega
 |k+1,h=>by
  unfold u5;by_cases hk:k=i
  ·subst hk;rw[hz,hy];simp
  ·have ih:=IW hn hz hy k Ω;cases hd:ds[k]? with
   |none=>exact ih
   |some a =>
    cases hx:nx[k]? with
    |none=>exact ih
    |some b =>
     have hne:¬ (a==z)=true:=fun e=>by have e:=eq_of_beq e;subst e;have h1:=(cU.1 hd);have h2:=(cU.1 hz);obtain⟨l1,e1⟩:=h1;obtain⟨l2,e2⟩:=h2;exact hk ((M1 hn).1 (e1.trans e2.symm))
     dsimp only
     rw[bC hne]
     exact ih
theorem aa2{ds nx:List Int}(hn:ds.Nodup){z y:Int}(h:(z,y)∈ds.zip nx):IX ds nx z=y:=by obtain⟨i,hi⟩:=zmm.1 h;obtain⟨h1,h2⟩:=zmv.1 hi;exact IW hn h1 h2 _ (cU.1 h1).1
theorem Cd{α:Type}{f g:α->List Int}:∀{l:List α},(∀ a∈l,(f a).length=(g a).length)->(l.flatMap f).zip (l.flatMap g)=l.flatMap fun a=>(f a).zip (g a)
 |[],_=>rfl
 |a::l,h=>by rw[fJ,fJ,fJ,List.zip_append (h a (kB ..)),Cd fun b hb=>h b (nk _ hb)]
theorem VF{l:List Int}{u v:Int}(h:uN l u v):(jg v,u)∈(nV l).zip l:=by
 rcases h with⟨A,B,rfl⟩|⟨B,rfl,h⟩
 ·refine zmm.2 ⟨A.length,zmv.2 ⟨zfu Ψ ?_,Ψ⟩⟩;rw[ND Ψ];rw[jd Ω,show A.length+1-A.length=1 by omega];rfl
 ·rw[zku]at h;refine zmm.2 ⟨(v::B).length-1,zmv.2 ⟨zfu Ψ ?_,h⟩⟩;rw[show(v::B).length-1+1=(v::B).length by simp,Nat.mod_self];rfl
theorem Hw{α:Type}{l:List α}{v:α}(h:v∈l):∃ u,uN l u v:=by
 obtain⟨A,B,rfl⟩:=zmc h;rcases zml A with rfl|⟨A',u,rfl⟩
 ·cases hB:(v::B).getLast? with
  |none=>simp at hB
  |some u=>exact⟨u,.inr ⟨B,rfl,hB⟩⟩
 ·exact⟨u,.inl ⟨A',B,Ψ⟩⟩
theorem zfx{l:List Int}{z:Int}(h:z∈nV l):∃ v∈l,z=jg v:=by
 unfold nV at h;obtain⟨v,hv,rfl⟩:=jA.1 h;refine⟨v,?_,rfl⟩;rcases og.1 hv with hv|hv
 ·exact List.mem_of_mem_drop hv
 ·exact zly hv
theorem CH(l:List Int):(nV l).Perm (l.map jg):=by unfold nV;refine List.Perm.map _ ?_;have:=List.perm_append_comm (l₁:=l.drop 1) (l₂:=l.take 1);rwa [Fu]at this
section
variable {p:Pn} (h:aV p)
include h
theorem aV.fT{z:Int}(hz:h.bp.eY z):jg z=-z/\h.bp.eY (-z):=by
 obtain⟨a,ha,rfl|rfl⟩:=h.cW.1 hz
 ·exact⟨h.ng ha,h.cW.2 ⟨a,ha,.inr rfl⟩⟩
 ·exact⟨by rw[h.ng2 ha,tA],h.cW.2 ⟨a,ha,.inl (tA _)⟩⟩
theorem aV.node{z:Int}(hz:h.bp.eY z):∃ x∈p.ns.l,h.bp.sp z=x.at'/\z∈bD p x.id:=by
 have key:∃ x∈p.ns.l,h.bp.sp z=x.at':=by
  obtain⟨a,ha,rfl|rfl⟩:=h.cW.1 hz
  ·exact⟨_,(yG (h.nice.fr a ha)).1,(h.qA ha).1⟩
  ·exact⟨_,(yG (h.nice.VX a ha)).1,(h.rT ha).1⟩
 obtain⟨x,hx,e⟩:=key;exact⟨x,hx,e,(h.around hx).1.mem_iff.2 ((h.qK hx).1 ⟨hz,e⟩)⟩
theorem aV.fm{x:Nd}(hx:x∈p.ns.l){z:Int}(hz:z∈bD p x.id):h.bp.eY z/\h.bp.sp z=x.at':=(h.qK hx).2 ((h.around hx).1.mem_iff.1 hz)
theorem aV.tZ:(bS p).Nodup:=by
 unfold bS;rw[List.Nodup,zla];constructor
 ·intro x hx;have hn:(bD p x.id).Nodup:=(h.around hx).1.nodup_iff.2 h.pJ;show(nV (bD p x.id)).Nodup;rw[(CH _).nodup_iff,List.Nodup,qO];refine hn.imp_of_mem fun{a b} ha hb aq e=>aq ?_;rw[(h.fT (h.fm hx ha).1).1,(h.fT (h.fm hx hb).1).1]at e;omega
 ·have hp:=h.nice.Wg;rw[qO]at hp;refine hp.imp_of_mem fun{x y} hx hy hxy u hu v hv e=>?_;subst e;obtain⟨a,ha,e1⟩:=zfx hu;obtain⟨b,hb,e2⟩:=zfx hv;obtain⟨a1,a2⟩:=h.fm hx ha;obtain⟨b1,b2⟩:=h.fm hy hb;rw[(h.fT a1).1]at e1;rw[(h.fT b1).1]at e2;have aq:a=b:=Ω;subst aq;have:=zbz h.pts hx hy (by rw[←a2,←b2]) (by rw[←a2,←b2]);omega
def iN(p:Pn)(z:Int):Int:=IX (bS p) (bW p) z
theorem aV.next{x:Nd}(hx:x∈p.ns.l){u v:Int}(ha:uN (bD p x.id) u v):iN p (-v)=u:=by have hv:=h.fm hx ha.mem.2;rw[←(h.fT hv.1).1];refine aa2 h.tZ ?_;unfold bS bW;rw[Cd fun n _=>zb1 _];exact qS.2 ⟨x,hx,VF ha⟩
theorem aV.turns:h.bp.Xo (iN p):=⟨fun d hd=>by
 obtain⟨x,hx,e,_⟩:=h.node hd;refine⟨bD p x.id,fun z=>?_,?_,fun u v ha=>h.next hx ha⟩
 ·rw[e];exact((h.around hx).1.mem_iff).trans (h.qK hx).symm
 ·rw[e];exact (h.around hx).2⟩
theorem aV.pS{z:Int}(hz:h.bp.eY z):h.bp.eY (iN p z)/\h.bp.sp (iN p z)=h.bp.sp (-z):=by obtain⟨_,hn⟩:=h.fT hz;obtain⟨x,hx,e,hm⟩:=h.node hn;obtain⟨u,hu⟩:=Hw hm;have:=h.next hx hu;rw[tA]at this;rw[this,e];exact h.fm hx hu.mem.1
theorem aV.fk{z:Int}:z∈aY p↔h.bp.eY z:=by
 rw[h.cW];unfold aY;rw[og,jA,jA];constructor
 ·rintro(⟨a,ha,rfl⟩|⟨a,ha,rfl⟩)
  ·rw[Sw]at ha;exact⟨a,ha,.inr (h.ng ha)⟩
  ·exact⟨a,ha,.inl rfl⟩
 ·rintro⟨a,ha,rfl|rfl⟩
  ·exact .inr ⟨a,ha,rfl⟩
  ·exact .inl ⟨a,Sw.2 ha,h.ng ha⟩
theorem aV.gd{z:Int}(hz:h.bp.eY z):GD p z:=by obtain⟨a,ha,e⟩:=h.cW.1 hz;have:=h.pid a ha;exact⟨a,ha,⟨Ω,Ω⟩,e,(h.nice.path ha).1⟩
theorem aV.Qp:(bS p).length<=2*p.az.l.length:=by
 have h1:=h.tZ.length_le_of_subset (l₂:=aY p) fun z hz=>by unfold bS at hz;obtain⟨x,hx,hz⟩:=qS.1 hz;obtain⟨v,hv,rfl⟩:=zfx hz;obtain⟨e,hd⟩:=h.fT (h.fm hx hv).1;rw[e];exact h.fk.2 hd
 have h2:(aY p).length=2*p.az.l.length:=by unfold aY;rw[eR,ig,ig,uF];omega
 omega
theorem aV.w9{z:Int}:∀(k:Nat)(l:List Int),l≠[]->(∀ x∈l,h.bp.eY x)->∀ x∈jU (iN p) z k l,h.bp.eY x
 |0,l,_,hl=>hl
 |k+1,l,hne,hl=>by
  unfold jU;split
  ·exact hl
  ·refine aV.w9 k _ Ψ fun x hx=>?_;rcases og.1 hx with hx|hx
   ·exact hl x hx
   ·rw[qx.1 hx];refine(h.pS (hl _ ?_)).1;have hp:0<l.length:=XK.2 hne;unfold fc;rw[cK Ω];exact gU _
end
theorem Y9{β:Type}{f:Int->β}{g:β->List Int}{c:β}:∀{ds met:List Int}{o:List β},c∈gX f g ds met o->c∈o∨∃ z∈ds,c=f z
 |[],_,_,h=>.inl h
 |z::ds,met,o,h=>by
  unfold gX at h;split at h
  ·rcases Y9 h with h|⟨y,hy,e⟩
   ·exact .inl h
   ·exact .inr ⟨y,nk _ hy,e⟩
  ·rcases Y9 h with h|⟨y,hy,e⟩
   ·rcases og.1 h with h|h
    ·exact .inl h
    ·exact .inr ⟨z,kB ..,qx.1 h⟩
   ·exact .inr ⟨y,nk _ hy,e⟩
section
variable {p:Pn} (h:aV p)
include h
theorem aV.qG(ha:p.az.l.length<=200):∀ c∈aW p,c.length<=512/\c≠[]/\∀ z∈c,GD p z:=fun c hc=>by
 unfold aW at hc;rcases Y9 hc with hc|⟨z,hz,rfl⟩
 ·simp at hc
 have hd:=h.fk.1 hz;have hl:=Y7 (f:=iN p) (bE:=z) (bS p).length [z];have hf:=h.Qp;rw[cu,dw]at hl;refine⟨?_,fun e=>?_,fun x hx=>h.gd (aV.w9 h (bS p).length [z] Ψ (fun x hx=>by rw[qx.1 hx];exact hd) x hx)⟩
 ·show(jU (iN p) z (bS p).length [z]).length<=512;omega
 ·have e:jU (iN p) z (bS p).length [z]=[]:=e;rw[e]at hl;simp at hl
theorem aV.agm:∀ n∈p.ns.l,∀ z∈bB p n.id,iw p z:=fun n hn z hz=>by obtain⟨_,_,g,_⟩:=XR (h.gd ((h.qK hn).2 hz).1);exact g
end
section
variable {S:cZ}
theorem ML(hS:bN S)(p:Pn)(id:Int)(ha:p.az.l.length<=1000000):aP S (p.az.l.length+11) 137 [.agg p.c,aG aH id] (aG aH (nY p.az.l id:Nat)):=by
 refine gv i137 hS (p.az.l.length+10) zn fun m hm d ah t af=>?_;simp only[V2,i137,Pn.c]at af;simp only[i137,V0,af];refine ze (fun jj st=>∃(i:Nat)(O:aU),p.az.l.length-i<=jj/\i<=p.az.l.length/\st.aa=aI [p.ns.v,p.az.v,p.fs.v]::O/\aN 35 st.t [(1,aG aH id),(2,.ptrM d 0 0),(5,iv (nY (p.az.l.take i) id:Nat)),(6,iv i)]) p.az.l.length Ω ⟨0,[],Ω,Ω,rfl,by simp only[V0,Xa,Xe,af,eU,xI];rfl⟩ ?_;clear af;rintro jj ⟨t,aa⟩ KA ⟨i,O,hjj,hi,ho,af⟩ bV cS dA;dsimp only at ho af;subst ho;simp only[V3]at af;by_cases h:i<p.az.l.length
 ·obtain⟨x,hx⟩:=gx (l:=p.az.l) (i:=i) h;have qm:bM (p.az.l.flatMap Ac.c) (i*6+1) 1=some [aG aH x.fr]:=(zd Ac.aZ 1 1 hx Ω).trans rfl;have hr2:bM (p.az.l.flatMap Ac.c) (i*6+2) 1=some [aG aH x.to]:=(zd Ac.aZ 2 1 hx Ω).trans rfl;have hw:=zq i;have hd:=wZ (id:=id) hx;have hle:=JK (p.az.l.take i) id;rw[k8,qu Ω]at hle;generalize nY (p.az.l.take i) id=n0 at af hd hle;have w1:=zq n0;have w2:aT .i64 (((n0+1:Nat):Int)+1)=((n0+1+1:Nat):Int):=we;cases h1:x.fr==id<;>cases h2:x.to==id<;>rw[h1,h2]at hd<;>simp only[l7,if_false,if_true,sY,fO,Xb]at hd
  ·simp only[V0,Xa,Xe,za p.az h, *];exact bV _ (p.az.l.length-(i+1)) Ω ⟨i+1,_,Ω,Ω,rfl,by simp only[V0,Xa,Xe,af,hd]⟩
  ·simp only[V0,Xa,Xe,za p.az h, *];exact bV _ (p.az.l.length-(i+1)) Ω ⟨i+1,_,Ω,Ω,rfl,by simp only[V0,Xa,Xe,af,hd]⟩
  ·simp only[V0,Xa,Xe,za p.az h, *];exact bV _ (p.az.l.length-(i+1)) Ω ⟨i+1,_,Ω,Ω,rfl,by simp only[V0,Xa,Xe,af,hd]⟩
  ·simp only[V0,Xa,Xe,za p.az h, *];exact bV _ (p.az.l.length-(i+1)) Ω ⟨i+1,_,Ω,Ω,rfl,by simp only[V0,Xa,Xe,af,hd]⟩
 ·have hii:i=p.az.l.length:=Ω;subst hii;rw[E7]at af;simp only[V0,Xa,Xe,af,h];refine cS _ _ ?_;simp only[V0,Xa,Xe,af]
end
def ac9(os:List (aS 1 aL)):Nat->aS 1 aL
 |0=>lQ
 |i+1=>(os[i]?).getD lQ
structure mK(D:Nat)(os:List (aS 1 aL))(n:Nat)(fi:Nat->List (aS 1 aL))(fa:Nat->List Int)(J:aU)(B:Nat->Nat)(lv:IV)(A:List jF):Prop where
 l:eC jx 4 D 1 B 0 J lv A
 len:A.length=n+1
 el:∀ i a,A[i]?=some a->eC ia 1 D 1 B (2+2*i) J a.iv a.ic/\eC aL 1 D 1 B (3+2*i) J a.av a.al/\a.tw=0/\a.oc=ac9 os i/\a.ic=fi i/\a.al=fa i
section
variable {D n:Nat} {os:List (aS 1 aL)} {fi:Nat->List (aS 1 aL)} {fa:Nat->List Int} {J:aU} {B:Nat->Nat} {lv:IV} {A:List jF}
theorem mK.ne(h:mK D os n fi fa J B lv A):A≠[]:=fun he=>by have:=h.len;rw[he]at this;simp at this
theorem mK.more(h:mK D os n fi fa J B lv A)(r:aU):mK D os n fi fa (J++r) B lv A :=
 ⟨h.l.more r,h.len,fun i a ha=>by
  obtain⟨h1,h2,h3⟩:=h.el i a ha;exact ⟨h1.more r,h2.more r,h3⟩⟩
theorem mK.blk(h:mK D os n fi fa J B lv A):∃ b,lv=.slM D (1+b) 0 A.length A.length 4 false/\J[b]?=some (aI (A.flatMap jx))/\B b=0:=by
 rcases h.l with⟨h0,_⟩|⟨b,_,h1,h2,h3⟩
 ·exact absurd h0 h.ne
 ·exact⟨b,h1,h2,h3⟩
theorem mK.set{fi2:Nat->List (aS 1 aL)}{fa2:Nat->List Int}{J2:aU}{B2:Nat->Nat}{b i:Nat}{a a':jF}(h:mK D os n fi fa J B lv A)(hl:lv=.slM D (1+b) 0 A.length A.length 4 false)(hb:J2[b]?=some (aI (A.flatMap jx)))(hB:B2 b=0)(ha:A[i]?=some a)(Wz:a'.oc=a.oc)(u9:a'.tw=a.tw)
  (hel:∀ j x,A[j]?=some x->j≠i->eC ia 1 D 1 B2 (2+2*j) J2 x.iv x.ic/\eC aL 1 D 1 B2 (3+2*j) J2 x.av x.al/\fi2 j=fi j/\fa2 j=fa j)
  (h1:eC ia 1 D 1 B2 (2+2*i) J2 a'.iv a'.ic) (h2:eC aL 1 D 1 B2 (3+2*i) J2 a'.av a'.al) (h3:a'.ic=fi2 i) (h4:a'.al=fa2 i) :
  mK D os n fi2 fa2 (J2.set b (aI ((A.set i a').flatMap jx))) B2 lv (A.set i a'):=by
 have hil:=(cU.1 ha).1
 have sW:=(cU.1 hb).1
 refine⟨.inr ⟨b,fun he=>h.ne (by have:=ep List.length he;simpa using this),by rw[hl,s6],oa sW,hB⟩,by rw[s6];exact h.len,fun j x hx=>?_⟩
 by_cases hj:j=i
 ·subst hj
  rw[oa hil]at hx
  cases hx
  obtain⟨_,_,g3,g4,_⟩:=h.el j a ha
  exact⟨eC.gD hB Ω h1,eC.gD hB Ω h2,by rw[u9];exact g3,by rw[Wz];exact g4,h3,h4⟩
 ·rw[nr (uE hj)]at hx
  obtain⟨_,_,g3,g4,g5,g6⟩:=h.el j x hx
  obtain⟨g1,g2,e1,e2⟩:=hel j x hx hj
  exact⟨eC.gD hB Ω g1,eC.gD hB Ω g2,g3,g4,by rw[e1];exact g5,by rw[e2];exact g6⟩
end
section
variable {S:cZ}
theorem abl{m D:Nat}{ah:bR}{K:fP}(p:Pn)(os:aS 1 ia)(lY:os.l.length<=65536)(hm:os.l.length+20<=m)(J0:aU)(B0:Nat->Nat)(sP:IV)(A0:List jF)(h0:mK D os.l 0 (fun _=>[]) (fun _=>[]) J0 B0 sP A0)
  (t:List IV) (af:aN 121 t [(1,.ptrM D 0 0),(3,os.v),(4,sP)])
  (hK:∀ t' J B lv A,mK D os.l os.l.length (fun _=>[]) (fun _=>[]) J B lv A->aN 121 t' [(1,.ptrM D 0 0),(3,os.v),(4,lv)]->K .normal ⟨t',aI [p.ns.v,p.az.v,p.fs.v]::J⟩) :
  Ex (aM aR S m) D ah m (i90.body.sub [1,1,1,0]) K ⟨t,aI [p.ns.v,p.az.v,p.fs.v]::J0⟩:=by
 simp only[zb,zc]at af
 simp only[i90,IC.sub,V0]
 refine ze (fun jj st=>∃(i:Nat)(J:aU)(B:Nat->Nat)(lv:IV)(A:List jF),os.l.length-i<=jj/\i<=os.l.length/\mK D os.l i (fun _=>[]) (fun _=>[]) J B lv A/\st.aa=aI [p.ns.v,p.az.v,p.fs.v]::J/\aN 121 st.t [(1,.ptrM D 0 0),(3,os.v),(4,lv),(5,iv i)]) os.l.length Ω ⟨0,J0,B0,sP,A0,Ω,Ω,h0,rfl,by simp only[V0,Xa,Xe,af,eU]⟩ ?_
 clear af h0
 rintro jj ⟨t,aa⟩ KA ⟨i,J,B,lv,A,hjj,hi,hD,ho,af⟩ bV cS dA
 dsimp only at ho af
 subst ho
 simp only[V3]at af
 by_cases h:i<os.l.length
 rotate_left
 ·simp only[V0,Xa,Xe,af,h]
  refine cS _ _ ?_
  obtain rfl:i=os.l.length:=Ω
  simp only[V0]
  exact hK _ _ _ _ _ hD (by simp only[V0,Xe,af])
 obtain⟨c,hx⟩:=gx (l:=os.l) (i:=i) h
 have hrd:bM (os.l.flatMap ia) (i*1) 1=some [c.v]:=(zd zr 0 1 hx Ω).trans rfl
 have hw:=zq i
 have hlen:=hD.len
 obtain⟨e,uH,J2,b9,_,dX,jD,iK⟩:=yB (k0:=1) (Pre:=[aI [p.ns.v,p.az.v,p.fs.v]]) (n0:=J.length+1) (slot:=1) (k:=1) (R:=[aI [aG aH 0,c.v,.nilsl,.nilsl],.free]) ye rfl hD.l (ys:=[⟨0,c,.nilsl,[],.nilsl,[]⟩]) Ψ (by simp only[cu,dw];omega) Ω rfl (by simp only[fJ,lz,iL,jx,qt,VK,Zp,zbi,Yo,HH])
 have b9:=b9 (look D ah (aI [p.ns.v,p.az.v,p.fs.v]::(J++[aI [aG aH 0,c.v,.nilsl,.nilsl],.free]))) (fun j x hj hx=>by simp only[look,if_true];exact hx)
 simp only[gQ,gM,fJ,lz,jx,cu,dw,iL,fO]at b9
 have Nj:cB (look D ah (aI [p.ns.v,p.az.v,p.fs.v]::(J++[aI [aG aH 0,c.v,.nilsl,.nilsl],.free]))) 4 (.slM D (J.length+1) 0 1 1 4 false)=some ([aG aH 0,c.v,.nilsl,.nilsl],1):=by simp[cB,look,seg,zi]
 simp only[V0,Xa,Xb,Xd,Xe,za os h,rep,Y3,gW,zh,zk,zo, *]
 refine bV _ (os.l.length-(i+1)) Ω ⟨i+1,J2,_,uH,_,Ω,Ω,⟨dX,by simp only[eR,cu,dw];omega,fun j a ha=>?_⟩,rfl,by simp only[V0,Xa,Xe,af]⟩
 by_cases hj:j<A.length
 ·rw[gT hj]at ha
  obtain⟨g1,g2,g3⟩:=hD.el j a ha
  exact⟨iK Ω g1,iK Ω g2,g3⟩
 ·rw[jd Ω]at ha
  have hj0:j-A.length=0:=by have:=(cU.1 ha).1;simp at this;omega
  rw[hj0]at ha
  cases ha
  obtain rfl:j=i+1:=Ω
  refine⟨.inl ⟨rfl,rfl⟩,.inl ⟨rfl,rfl⟩,rfl,?_,rfl,rfl⟩
  show c=(os.l[i]?).getD lQ
  rw[hx]
  rfl
end
section
variable {S:cZ}
def qc(tw:aS 1 aL->Int)(kk:aS 1 aL->Nat)(l:List (aS 1 aL))(i:Nat):List (aS 1 aL):=l.filter fun c=>decide (tw c<=0)&&kk c==i
theorem T5{tw:aS 1 aL->Int}{kk:aS 1 aL->Nat}{l:List (aS 1 aL)}{c:aS 1 aL}(h:decide (tw c<=0)=false):qc tw kk (l++[c])=qc tw kk l:=by funext i;unfold qc;rw[E9,BX,h,ew,bC Δ,zmh,iL]
theorem T7{tw:aS 1 aL->Int}{kk:aS 1 aL->Nat}{l:List (aS 1 aL)}{c:aS 1 aL}(h:decide (tw c<=0)=true):qc tw kk (l++[c]) (kk c)=qc tw kk l (kk c)++[c]:=by unfold qc;rw[E9,BX,h,pX,bt Ψ,zmh]
theorem T6{tw:aS 1 aL->Int}{kk:aS 1 aL->Nat}{l:List (aS 1 aL)}{c:aS 1 aL}{i:Nat}(h:i≠kk c):qc tw kk (l++[c]) i=qc tw kk l i:=by unfold qc;have:(kk c==i)=false:=beq_eq_false_iff_ne.2 fun e=>h e.symm;rw[E9,BX,this,l8,bC Δ,zmh,iL]
theorem Dy{tw:aS 1 aL->Int}{kk:aS 1 aL->Nat}{l:List (aS 1 aL)}{i:Nat}:(qc tw kk l i).length<=l.length:=XH ..
theorem abk(hS:bN S){m D:Nat}{ah:bR}{K:fP}(p:Pn)(os cs:aS 1 ia)(hol:os.l.length<=65536)(lY:cs.l.length<=65536)(hm:cs.l.length+20<=m)(tw:aS 1 aL->Int)(kk:aS 1 aL->Nat)(J0:aU)(B0:Nat->Nat)(lv:IV)(A0:List jF)(h0:mK D os.l os.l.length (fun _=>[]) (fun _=>[]) J0 B0 lv A0)
  (u9:∀ c∈cs.l,∀ d ah aK aa id,aM aR S m d ah aK aa id 134 [.agg p.c,c.v]=some (.r,aG aH (tw c),aa))
  (hcy:∀ c∈cs.l,∃(z:Int)(r:List Int)(y:Pt)(pa:aS 2 Pt.c)(v:Int),c.l=z::r/\pa.l[0]?=some y/\(∀ d ah aK aa id,aM aR S m d ah aK aa id 136 [.agg p.c,aG aH z]=some (.r,pa.v,aa))/\1+v=(kk c:Nat)/\kk c<=os.l.length/\(∀ d ah aK aa id,aM aR S m d ah aK aa id 135 [.agg p.c,os.v,.agg y.c]=some (.r,aG aH v,aa)))
  (t:List IV) (af:aN 121 t [(1,.ptrM D 0 0),(3,os.v),(4,lv),(6,cs.v)])
  (hK:∀ t' J B A,mK D os.l os.l.length (qc tw kk cs.l) (fun _=>[]) J B lv A->aN 121 t' [(1,.ptrM D 0 0),(3,os.v),(4,lv)]->K .normal ⟨t',aI [p.ns.v,p.az.v,p.fs.v]::J⟩) :
  Ex (aM aR S m) D ah m (i90.body.sub [1,1,1,1,1,0]) K ⟨t,aI [p.ns.v,p.az.v,p.fs.v]::J0⟩:=by
 simp only[zb,zc]at af
 simp only[i90,IC.sub,V0]
 refine ze (fun jj st=>∃(i:Nat)(J:aU)(B:Nat->Nat)(A:List jF),cs.l.length-i<=jj/\i<=cs.l.length/\mK D os.l os.l.length (qc tw kk (cs.l.take i)) (fun _=>[]) J B lv A/\st.aa=aI [p.ns.v,p.az.v,p.fs.v]::J/\aN 121 st.t [(1,.ptrM D 0 0),(3,os.v),(4,lv),(6,cs.v),(8,iv i)]) cs.l.length Ω ⟨0,J0,B0,A0,Ω,Ω,h0,rfl,by simp only[V0,Xa,Xe,af,eU]⟩ ?_
 clear af h0
 rintro jj ⟨t,aa⟩ KA ⟨i,J,B,A,hjj,hi,hD,ho,af⟩ bV cS dA
 dsimp only at ho af
 subst ho
 simp only[V3]at af
 by_cases h:i<cs.l.length
 rotate_left
 ·simp only[V0,Xa,Xe,af,h]
  refine cS _ _ ?_
  obtain rfl:i=cs.l.length:=Ω
  rw[E7]at hD
  simp only[V0]
  exact hK _ _ _ _ hD (by simp only[V0,Xe,af])
 have hx:cs.l[i]?=some cs.l[i]:=cK h
 have sS:cs.l.take (i+1)=cs.l.take i++[cs.l[i]]:=by rw[lH,hx];rfl
 have hmem:=gU h
 generalize cs.l[i]=c at hx hmem sS
 have ct:=u9 c hmem
 obtain⟨z,r,y,pa,v,Qc,hy,cp,hkv,nP,ca⟩:=hcy c hmem
 simp only[Pn.c,Pt.c,zg]at ct cp ca
 have hrd:bM (cs.l.flatMap ia) (i*1) 1=some [c.v]:=(zd zr 0 1 hx Ω).trans rfl
 have hw:=zq i
 have hwk:aT .i64 (1+v)=((kk c:Nat):Int):=by rw[hkv];exact zbo rfl Ω
 cases g:decide (tw c<=0)
 ·have hic:=T5 (kk:=kk) (l:=cs.l.take i) g
  rw[←sS]at hic
  simp only[V0,Xa,Xe,af,h,za cs h,hrd,ct,g,hw]
  exact bV _ (cs.l.length-(i+1)) Ω ⟨i+1,_,B,A,Ω,Ω,by rw[hic];exact hD.more _,rfl,by simp only[V0,Xa,Xe,af]⟩
 obtain⟨b,hlv,hb,hB⟩:=hD.blk
 have hAl:=hD.len
 have hk:kk c<A.length:=Ω
 obtain⟨a,ha⟩:=gx (l:=A) (i:=kk c) hk
 obtain⟨g1,g2,g3,g4,g5,g6⟩:=hD.el _ a ha
 have Ww:bM (A.flatMap jx) (kk c*4+2) 1=some [a.iv]:=(BJ ha Ω).trans rfl
 have hil:∀ aa,dD aa 4 (.slM D (1+b) 0 A.length A.length 4 false) (aG aH (kk c:Nat))=some (.p,.ptrM D (1+b) (kk c*4),aa):=fun aa=>by have:=zm (aa:=aa) (l:=D) (b:=1+b) (off:=0) (cap:=A.length) (z:=4) (z':=4) (tight:=false) (k:=.i64) hk;rw[fO]at this;exact this
 have hc0:0<c.l.length:=by rw[Qc];simp
 have hic:∀ aa,dD aa 1 c.v (aG aH 0)=some (.p,.ptrC (c.l.flatMap aL) (0*1),aa):=fun aa=>za c (i:=0) hc0
 have hp0:0<pa.l.length:=(cU.1 hy).1
 have hip:∀ aa,dD aa 2 pa.v (aG aH 0)=some (.p,.ptrC (pa.l.flatMap Pt.c) (0*2),aa):=fun aa=>za pa (i:=0) hp0
 have hrc:bM (c.l.flatMap aL) (0*1) 1=some [aG aH z]:=(zd (l:=c.l) (i:=0) (x:=z) zf 0 1 (by rw[Qc];rfl) Ω).trans rfl
 have hrp:bM (pa.l.flatMap Pt.c) (0*2) 2=some [aG aH y.x,aG aH y.y]:=(zd Pt.aZ 0 2 hy Ω).trans rfl
 simp only[V0,Xa,Xe,af,h,za cs h,hrd,ct,g,Xc,hic,hrc,cp,hip,hrp,ca,hwk]
 have hhA:∀(vis:List Nat)(x:aO)(R:aU),(b7 vis (J.length+3+1) (x::(J++R)))[1+b]?=some (aI (A.flatMap jx)):=fun vis x R=>by
  have h1:(x::J)[1+b]?=some (aI (A.flatMap jx)):=by rw[qv 1 b,jP];exact hb
  have h2:=Ys h1 vis 3 R;rw[cu,Nat.add_right_comm]at h2;exact h2
 have Qa:=Dy (tw:=tw) (kk:=kk) (l:=cs.l.take i) (i:=kk c)
 rw[k8,qu Ω,←g5]at Qa
 obtain⟨e,M8,J2,b9,he,dX,jD,iK⟩:=yB (k0:=1) (Pre:=[aI [p.ns.v,p.az.v,p.fs.v]]) (n0:=J.length+3+1) (slot:=0) (k:=0) (R:=[.free]) zr rfl (g1.more [.free,.free,.free]) (ys:=[c]) Ψ (by simp only[cu,dw];omega) (by simp;omega) rfl (by simp[ia,Zp])
 have Qi:=hD.more [.free,.free,.free]
 have b9:=b9 (look D ah (b7 [] (J.length+3+1) (aI [p.ns.v,p.az.v,p.fs.v]::(J++[.free,.free,.free]++[.free])))) (fun j x hj hx=>by
  simp only[look,if_true];rw[zp];have hj2:j<J.length+3+1:=by simp only[eR,cu,dw]at hj;omega
  rw[gQ,gM]at hx;rw[hx,gH,decide_eq_true hj2,iY];rfl)
 simp only[gQ,gM,fJ,lz,ia,cu,dw,iL,fO,kR]at b9
 have fG:J2[b]?=some (aI (A.flatMap jx))/\C4 B ((J++[aO.free,.free,.free]).length+0) (2+2*kk c) b=0:=by
  rcases iK Ω Qi.l with⟨h1,_⟩|⟨b',_,h1,h2,h3⟩
  ·exact absurd h1 hD.ne
  ·rw[hlv]at h1;injection h1 with _ oq;have:b'=b:=Ω;subst this;exact⟨h2,h3⟩
 have sU:=Qi.set hlv fG.1 fG.2 ha (a':={ a with iv:=M8,ic:=a.ic++[c] }) rfl rfl (fi2:=qc tw kk (cs.l.take (i+1))) (fa2:=fun _=>[]) (fun j x hx hj=>by
  obtain⟨q1,q2,_⟩:=Qi.el j x hx;exact ⟨iK Ω q1,iK Ω q2,by rw [sS]; exact T6 hj,rfl⟩) dX (iK Ω (g2.more _)) (by show a.ic++[c]=_; rw [sS,T7 g,← g5]) g6
 have gl2:∀ x:aO,(x::J2)[1+b]?=some (aI (A.flatMap jx)):=fun x=>by rw[qv 1 b,jP];exact fG.1
 have X8:∀(x y:aO),(x::J2).set (1+b) y=x::J2.set b y:=fun x y=>by rw[qv 1 b,HI]
 have hfit:kk c*4+2+1<=(A.flatMap jx).length:=by rw[zl ye];omega
 have hwr:gV (A.flatMap jx) (kk c*4+2) [M8]=(A.set (kk c) { a with iv:=M8,ic:=a.ic++[c] }).flatMap jx:=ZH ye ha Ψ rfl
 have sc2:=dX.tJ
 have cl2:=dX.cells
 simp only[V0,Xa,Xb,Xe,af,hlv,hil,hhA,Ww,za cs h,hrd,rep,zh,zk,zo,Zv,b9,gl2,X8,hfit,hwr,sc2,cl2,hw]
 exact bV _ (cs.l.length-(i+1)) Ω ⟨i+1,_,_,_,Ω,Ω,sU,rfl,by simp only[V0,Xa,Xe,af,hlv]⟩
end
section
variable {S:cZ}
def pK(dg:Nd->Int)(kn:Nd->Nat)(l:List Nd)(i:Nat):List Int:=(l.filter fun n=>dg n==0&&kn n==i).map Nd.id
theorem VC{dg:Nd->Int}{kn:Nd->Nat}{l:List Nd}{c:Nd}(h:(dg c==0)=false):pK dg kn (l++[c])=pK dg kn l:=by funext i;unfold pK;rw[E9,BX,h,ew,bC Δ,zmh,iL]
theorem VE{dg:Nd->Int}{kn:Nd->Nat}{l:List Nd}{c:Nd}(h:(dg c==0)=true):pK dg kn (l++[c]) (kn c)=pK dg kn l (kn c)++[c.id]:=by unfold pK;rw[E9,BX,h,pX,bt Ψ,zmh,E6];rfl
theorem VD{dg:Nd->Int}{kn:Nd->Nat}{l:List Nd}{c:Nd}{i:Nat}(h:i≠kn c):pK dg kn (l++[c]) i=pK dg kn l i:=by unfold pK;have:(kn c==i)=false:=beq_eq_false_iff_ne.2 fun e=>h e.symm;rw[E9,BX,this,l8,bC Δ,zmh,iL]
theorem ES{dg:Nd->Int}{kn:Nd->Nat}{l:List Nd}{i:Nat}:(pK dg kn l i).length<=l.length:=by unfold pK;rw[ig];exact XH ..
theorem QU(hS:bN S){m D:Nat}{ah:bR}{K:fP}(p:Pn)(hpn:p.ns.l.length<=1000000)(os:aS 1 ia)(hol:os.l.length<=65536)(hm:p.ns.l.length+20<=m)(dg:Nd->Int)(kn:Nd->Nat)(fi:Nat->List (aS 1 aL))(J0:aU)(B0:Nat->Nat)(lv:IV)(A0:List jF)(h0:mK D os.l os.l.length fi (fun _=>[]) J0 B0 lv A0)
  (hdg:∀ n∈p.ns.l,∀ d ah aK aa id,aM aR S m d ah aK aa id 137 [.agg p.c,aG aH n.id]=some (.r,aG aH (dg n),aa))
  (hcy:∀ n∈p.ns.l,∃ v:Int,1+v=(kn n:Nat)/\kn n<=os.l.length/\(∀ d ah aK aa id,aM aR S m d ah aK aa id 135 [.agg p.c,os.v,.agg n.at'.c]=some (.r,aG aH v,aa)))
  (t:List IV) (af:aN 121 t [(1,.ptrM D 0 0),(3,os.v),(4,lv)])
  (hK:∀ t' J B A,mK D os.l os.l.length fi (pK dg kn p.ns.l) J B lv A->aN 121 t' [(4,lv)]->K .normal ⟨t',aI [p.ns.v,p.az.v,p.fs.v]::J⟩) :
  Ex (aM aR S m) D ah m (i90.body.sub [1,1,1,1,1,1,0]) K ⟨t,aI [p.ns.v,p.az.v,p.fs.v]::J0⟩:=by
 simp only[zb,zc]at af
 simp only[i90,IC.sub,V0]
 refine ze (fun jj st=>∃(i:Nat)(J:aU)(B:Nat->Nat)(A:List jF),p.ns.l.length-i<=jj/\i<=p.ns.l.length/\mK D os.l os.l.length fi (pK dg kn (p.ns.l.take i)) J B lv A/\st.aa=aI [p.ns.v,p.az.v,p.fs.v]::J/\aN 121 st.t [(1,.ptrM D 0 0),(3,os.v),(4,lv),(10,iv i)]) p.ns.l.length Ω ⟨0,J0,B0,A0,Ω,Ω,h0,rfl,by simp only[V0,Xa,Xe,af,eU]⟩ ?_
 clear af h0
 rintro jj ⟨t,aa⟩ KA ⟨i,J,B,A,hjj,hi,hD,ho,af⟩ bV cS dA
 dsimp only at ho af
 subst ho
 simp only[V3]at af
 by_cases h:i<p.ns.l.length
 rotate_left
 ·simp only[V0,Xa,Xe,af,h]
  refine cS _ _ ?_
  obtain rfl:i=p.ns.l.length:=Ω
  rw[E7]at hD
  simp only[V0]
  exact hK _ _ _ _ hD (by simp only[V0,Xe,af])
 have hx:p.ns.l[i]?=some p.ns.l[i]:=cK h
 have sS:p.ns.l.take (i+1)=p.ns.l.take i++[p.ns.l[i]]:=by rw[lH,hx];rfl
 have hmem:=gU h
 generalize p.ns.l[i]=c at hx hmem sS
 have cd:=hdg c hmem
 obtain⟨v,hkv,nP,ca⟩:=hcy c hmem
 simp only[Pn.c,Pt.c,zg]at cd ca
 have qm:bM (p.ns.l.flatMap Nd.c) (i*3) 1=some [aG aH c.id]:=(zd Nd.aZ 0 1 hx Ω).trans rfl
 have hr2:bM (p.ns.l.flatMap Nd.c) (i*3+1) 2=some [aG aH c.at'.x,aG aH c.at'.y]:=(zd Nd.aZ 1 2 hx Ω).trans rfl
 have hw:=zq i
 have hwk:aT .i64 (1+v)=((kn c:Nat):Int):=by rw[hkv];exact zbo rfl Ω
 cases g:dg c==0
 ·have hic:=VC (kn:=kn) (l:=p.ns.l.take i) g
  rw[←sS]at hic
  simp only[V0,Xa,Xe,af,h,za p.ns h,qm,cd,g,hw]
  exact bV _ (p.ns.l.length-(i+1)) Ω ⟨i+1,_,B,A,Ω,Ω,by rw[hic];exact hD.more _,rfl,by simp only[V0,Xa,Xe,af]⟩
 obtain⟨b,hlv,hb,hB⟩:=hD.blk
 have hAl:=hD.len
 have hk:kn c<A.length:=Ω
 obtain⟨a,ha⟩:=gx (l:=A) (i:=kn c) hk
 obtain⟨g1,g2,g3,g4,g5,g6⟩:=hD.el _ a ha
 have Ww:bM (A.flatMap jx) (kn c*4+3) 1=some [a.av]:=(BJ ha Ω).trans rfl
 have hil:∀ aa,dD aa 4 (.slM D (1+b) 0 A.length A.length 4 false) (aG aH (kn c:Nat))=some (.p,.ptrM D (1+b) (kn c*4),aa):=fun aa=>by have:=zm (aa:=aa) (l:=D) (b:=1+b) (off:=0) (cap:=A.length) (z:=4) (z':=4) (tight:=false) (k:=.i64) hk;rw[fO]at this;exact this
 simp only[V0,Xa,Xe,af,h,za p.ns h,qm,cd,g,hr2,ca,hwk]
 have hhA:∀(vis:List Nat)(x:aO)(R:aU),(b7 vis (J.length+2+1) (x::(J++R)))[1+b]?=some (aI (A.flatMap jx)):=fun vis x R=>by
  have h1:(x::J)[1+b]?=some (aI (A.flatMap jx)):=by rw[qv 1 b,jP];exact hb
  have h2:=Ys h1 vis 2 R;rw[cu,Nat.add_right_comm]at h2;exact h2
 have Qa:=ES (dg:=dg) (kn:=kn) (l:=p.ns.l.take i) (i:=kn c)
 rw[k8,qu Ω,←g6]at Qa
 obtain⟨e,Nq,J2,b9,he,dX,jD,iK⟩:=yB (k0:=1) (Pre:=[aI [p.ns.v,p.az.v,p.fs.v]]) (n0:=J.length+2+1) (slot:=0) (k:=0) (R:=[.free]) zf rfl (g2.more [.free,.free]) (ys:=[c.id]) Ψ (by simp only[cu,dw];omega) (by simp;omega) rfl rfl
 have Qi:=hD.more [aO.free,.free]
 have b9:=b9 (look D ah (b7 [] (J.length+2+1) (aI [p.ns.v,p.az.v,p.fs.v]::(J++[.free,.free]++[.free])))) (fun j x hj hx=>by
  simp only[look,if_true];rw[zp];have hj2:j<J.length+2+1:=by simp only[eR,cu,dw]at hj;omega
  rw[gQ,gM]at hx;rw[hx,gH,decide_eq_true hj2,iY];rfl)
 simp only[gQ,gM,fJ,lz,aL,zg,cu,dw,iL,fO,kR]at b9
 have fG:J2[b]?=some (aI (A.flatMap jx))/\C4 B ((J++[aO.free,.free]).length+0) (3+2*kn c) b=0:=by
  rcases iK Ω Qi.l with⟨h1,_⟩|⟨b',_,h1,h2,h3⟩
  ·exact absurd h1 hD.ne
  ·rw[hlv]at h1;injection h1 with _ oq;have:b'=b:=Ω;subst this;exact⟨h2,h3⟩
 have sU:=Qi.set hlv fG.1 fG.2 ha (a':={ a with av:=Nq,al:=a.al++[c.id] }) rfl rfl (fi2:=fi) (fa2:=pK dg kn (p.ns.l.take (i+1))) (fun j x hx hj=>by
  obtain⟨q1,q2,_⟩:=Qi.el j x hx;exact ⟨iK Ω q1,iK Ω q2,rfl,by rw [sS]; exact VD hj⟩) (iK Ω (g1.more _)) dX g5 (by show a.al++[c.id]=_; rw [sS,VE g,← g6])
 have gl2:∀ x:aO,(x::J2)[1+b]?=some (aI (A.flatMap jx)):=fun x=>by rw[qv 1 b,jP];exact fG.1
 have X8:∀(x y:aO),(x::J2).set (1+b) y=x::J2.set b y:=fun x y=>by rw[qv 1 b,HI]
 have hfit:kn c*4+3+1<=(A.flatMap jx).length:=by rw[zl ye];omega
 have hwr:gV (A.flatMap jx) (kn c*4+3) [Nq]=(A.set (kn c) { a with av:=Nq,al:=a.al++[c.id] }).flatMap jx:=ZH ye ha Ψ rfl
 have sc2:=dX.tJ
 have cl2:=dX.cells
 simp only[V0,Xa,Xb,Xe,af,hlv,hil,hhA,Ww,za p.ns h,qm,rep,zh,zk,zo,zu,b9,gl2,X8,hfit,hwr,sc2,cl2]
 simp only[V0,Xa,Xe,af,hw]
 exact bV _ (p.ns.l.length-(i+1)) Ω ⟨i+1,_,_,_,Ω,Ω,sU,rfl,by simp only[V0,Xa,Xe,af,hlv]⟩
end
def startP(p:Pn)(c:List Int):Pt:=((bJ p ((c[0]?).getD 0))[0]?).getD ⟨0,0⟩
def gp(p:Pn)(os:List (List Int))(q:Pt):Nat:=(1+RV p os q).toNat
def ocR(os:List (List Int)):Nat->List Int
 |0=>[]
 |i+1=>(os[i]?).getD []
theorem RU(p:Pn)(os:List (List Int))(q:Pt):-1<=RV p os q/\RV p os q<os.length:=Y8 _
theorem wq{f:IV->Option IV}:∀{A:List jF}{n:Nat}{F:Nat->Ar},A.length=n->(∀ i a,A[i]?=some a->(jx a).mapM f=some (lq (F i)))->(A.flatMap jx).mapM f=some (((List.range n).map F).flatMap lq)
 |[],_,F,hn,_=>by subst hn;rfl
 |a::A,_,F,hn,h=>by subst hn;have h2:=wq (A:=A) (n:=A.length) (F:=fun i=>F (i+1)) rfl fun i x hx=>h (i+1) x (by rw[jP];exact hx);rw[cu,List.range_succ_eq_map,nK,SN,fJ,fJ,zoc,h 0 a rfl,h2];rfl
section
variable {S:cZ}
structure uB(p:Pn)(q:List Ar):Prop where
 len:q.length=(bz p).length+1
 el:∀ i a,q[i]?=some a->a.tw=0/\a.oc.l=ocR (bz p) i/\a.ic.l.map (·.l)=((aW p).filter fun c=>decide (gq p c<=0)&&gp p (bz p) (startP p c)==i)/\a.al.l=((p.ns.l.filter fun n=>((nY p.az.l n.id:Nat):Int)==0&&gp p (bz p) n.at'==i).map Nd.id)
theorem YV{β γ:Type}(f:β->γ)(q:γ->Bool):∀ l:List β,(l.filter fun x=>q (f x)).map f=(l.map f).filter q
 |[]=>rfl
 |x::l=>by
  rw[nK,BX,BX];split
  ·rw[nK,YV f q l]
  ·exact YV f q l
theorem aa1{os:List (aS 1 aL)}:∀ i,(ac9 os i).l=ocR (os.map (·.l)) i
 |0=>rfl
 |i+1=>by show((os[i]?).getD lQ).l=((os.map (·.l))[i]?).getD [];rw[k9];cases os[i]?<;>rfl
theorem Hj(hS:bN S)(p:Pn)(iz:bQ p)(ha:p.az.l.length<=200)(hn:p.ns.l.length<=200)(hok:∀ n∈p.ns.l,∀ z∈bB p n.id,iw p z)(hE:jf p=0)(hg:∀ c∈aW p,c.length<=512/\c≠[]/\∀ z∈c,GD p z):∃ q:List Ar,uB p q/\q.length<=401/\∃ N,∀ m,N<=m->∀ d ah aK aa id,aa[id]?=some .free->aM aR S m d ah aK aa id 90 [.agg p.c]=some (.a,.slM d id 0 q.length q.length 4 false,aa.set id (aI (q.flatMap lq))):=by
 obtain⟨os,hos,N0,h0⟩:=MI hS p iz ha hn hok hE hg;obtain⟨cs,hcs,N1,h1⟩:=xB hS p iz ha hn hok hE;have hg':∀ c∈cs.l,c.l.length<=512/\c.l≠[]/\∀ z∈c.l,GD p z:=fun c hc=>hg _ (by rw[←hcs];exact HJ hc);have ag0:∀ c∈os.l,c.l.length<=512/\∀ z∈c.l,GD p z:=fun c hc=>by
  have h2:c.l∈bz p:=by rw[←hos];exact HJ hc
  have h3:=(tu.1 ((yH p).mem_iff.1 h2)).1;exact⟨(hg _ h3).1,(hg _ h3).2.2⟩
 have lY:cs.l.length<=400:=by
  have h:=ep List.length hcs;rw[ig]at h;have h2:=yP (bZ (bS p) (bW p)) id (aY p) [] [];have hdl:(aY p).length<=400:=by unfold aY;rw[eR,ig,ig,uF];omega
  unfold aW at h;rw[dw]at h2;omega
 have hol:os.l.length<=400:=by have h:=ep List.length hos;rw[ig]at h;have h2:=(yH p).length_eq;have h3:=XH (fun c=>decide (0<gq p c)) (aW p);have h4:=ep List.length hcs;rw[ig]at h4;omega
 obtain⟨N2,h2⟩:∃ N,∀ c∈cs.l,aP S N 134 [.agg p.c,c.v] (aG aH (gq p c.l)):=Yz (P:=fun(c:aS 1 aL) N=>aP S N 134 [.agg p.c,c.v] (aG aH (gq p c.l))) (fun a n m hnm h m' hm'=>h m' Ω) fun c hc=>zcv hS p iz c (hg' c hc).1 fun z hz=>by obtain⟨_,_,a,b,c,_⟩:=XR ((hg' c hc).2.2 z hz);exact⟨a,b,c⟩
 obtain⟨N3,h3⟩:=Hq hS p iz os Ω ag0;obtain⟨N4,h4⟩:∃ N,∀ c∈cs.l,∃ q:aS 2 Pt.c,q.l=bJ p ((c.l[0]?).getD 0)/\aP S N 136 [.agg p.c,aG aH ((c.l[0]?).getD 0)] q.v:=Yz (P:=fun(c:aS 1 aL) N=>∃ q:aS 2 Pt.c,q.l=bJ p ((c.l[0]?).getD 0)/\aP S N 136 [.agg p.c,aG aH ((c.l[0]?).getD 0)] q.v) (fun a n m hnm ⟨q,hq,h⟩=>⟨q,hq,fun m' hm'=>h m' Ω⟩) fun c hc=>by
  obtain⟨hl,hne,hgd⟩:=hg' c hc;cases qE:c.l with
  |nil=>exact absurd qE hne
  |cons z r =>
   obtain⟨q,hq,N,h⟩:=xz hS p z iz (hgd z (by rw[qE];exact kB ..))
   exact⟨N,q,hq,h⟩
 have hic:∀ i,(qc (fun c=>gq p c.l) (fun c=>gp p (bz p) (startP p c.l)) cs.l i).length<9223372036854775808:=fun i=>by have:=Dy (tw:=fun c=>gq p c.l) (kk:=fun c=>gp p (bz p) (startP p c.l)) (l:=cs.l) (i:=i);omega
 have hal:∀ i,(pK (fun n=>((nY p.az.l n.id:Nat):Int)) (fun n=>gp p (bz p) n.at') p.ns.l i).length<9223372036854775808:=fun i=>by have:=ES (dg:=fun n=>((nY p.az.l n.id:Nat):Int)) (kn:=fun n=>gp p (bz p) n.at') (l:=p.ns.l) (i:=i);omega
 generalize hF:(fun i=>(⟨0,ac9 os.l i,eX zr _ (hic i),eX zf _ (hal i)⟩:Ar))=F;have ado:((List.range (os.l.length+1)).map F).length=os.l.length+1:=by rw[ig,XB]
 refine⟨(List.range (os.l.length+1)).map F,⟨?_,fun i a qg=>?_⟩,Ω,N0+N1+N2+N3+N4+3000,fun m hm d ah aK aa id hid=>?_⟩
 ·rw[ig,XB,←hos,ig]
 ·rw[k9]at qg;have hi:i<os.l.length+1:=by refine zmu fun h=>?_;rw[BZ (by rw[XB];omega)]at qg;cases qg
  rw[VL hi,gH,fZ]at qg;subst qg;rw[←hF];refine⟨rfl,(aa1 i).trans (by rw[hos]),?_,?_⟩
  ·dsimp only;rw[yg,←hcs];exact YV (fun x:aS 1 aL=>x.l) (fun c=>decide (gq p c<=0)&&gp p (bz p) (startP p c)==i) cs.l
  ·dsimp only;rw[yg];rfl
 obtain⟨m,rfl⟩:=me m 8;suffices hmain:∃ r,aM aR S (m+7+1) d ah aK aa id 90 [.agg p.c]=some r/\r=(.a,.slM d id 0 ((List.range (os.l.length+1)).map F).length ((List.range (os.l.length+1)).map F).length 4 false,aa.set id (aI (((List.range (os.l.length+1)).map F).flatMap lq))) by obtain⟨r,h,rfl⟩:=hmain;exact h
 refine yz (i:=i90) (ns hS) rfl (show(1:Nat)≠2/\(1:Nat)≠3/\¬ 4<=1 by decide) (lb rfl) fun t af=>?_;simp only[slotsOf,zb,zc,i90,Pn.c]at af;generalize(fun l=>if l=d then aK else ah l:bR)=cQ
 have fin:∀(t':List IV)(J:aU)(B:Nat->Nat)(lv:IV)(A:List jF),mK (d+1) os.l os.l.length (qc (fun c=>gq p c.l) (fun c=>gp p (bz p) (startP p c.l)) cs.l) (pK (fun n=>((nY p.az.l n.id:Nat):Int)) (fun n=>gp p (bz p) n.at') p.ns.l) J B lv A->aN 121 t' [(2,lv)]->(Out.ret=.normal∨Out.ret=.ret)/\∃ v r,bP (d+1) cQ ⟨t',aI [p.ns.v,p.az.v,p.fs.v]::J⟩ i90.res=some v/\leave (m+7) d (aI [p.ns.v,p.az.v,p.fs.v]::J) aa id i90.mode v=some r/\r=(.a,.slM d id 0 ((List.range (os.l.length+1)).map F).length ((List.range (os.l.length+1)).map F).length 4 false,aa.set id (aI (((List.range (os.l.length+1)).map F).flatMap lq))):=fun t' J B lv A hD ht=>by
  simp only[zb,zc]at ht;obtain⟨b,hlv,hb,hB⟩:=hD.blk;have hfz:(A.flatMap jx).mapM (freeze (m+7) (d+1) ((aO.cells [p.ns.v,p.az.v,p.fs.v]::J).set (1+b) .gone))=some (((List.range (os.l.length+1)).map F).flatMap lq):=by rw[qv 1 b,HI];refine wq hD.len fun i a qg=>?_;obtain⟨q1,q2,q3,q4,q5,q6⟩:=hD.el i a qg;have q1:=eC.gD (o:=.gone) hB Ω q1;have q2:=eC.gD (o:=.gone) hB Ω q2;rw[q5]at q1;rw[q6]at q2;have f1:=ZW (Pre:=[aI [p.ns.v,p.az.v,p.fs.v]]) (n:=m+6) zr rfl (fun c x hx=>(GX c x hx).le Ω) (hic i) q1;have f2:=ZW (Pre:=[aI [p.ns.v,p.az.v,p.fs.v]]) (n:=m+6) zf rfl (fun c x hx=>(yF c x hx).le Ω) (hal i) q2;simp only[gQ,gM]at f1 f2;have f3:freeze (m+7) (d+1) (aI [p.ns.v,p.az.v,p.fs.v]::J.set b .gone) a.oc.v=some a.oc.v:=z7 yF a.oc _ Ω _ _;have f0:freeze (m+7) (d+1) (aI [p.ns.v,p.az.v,p.fs.v]::J.set b .gone) (aG aH 0)=some (aG aH 0):=rfl;rw[q4]at f3;rw[←hF];simp only[jx,lq,rO,Cc,f0,f1,f2,f3,tC,uG,jG,q3,q4]
  have hAl:=hD.len;refine⟨.inr rfl,lv,_,by simp only[i90,V0,ht],?_,rfl⟩;have iP:seg (A.flatMap jx) 0 (A.length*4)=some (A.flatMap jx):=by unfold seg;rw[zi,zl ye,bt Ω,BV,gj (by rw[zl ye];exact dz _)]
  have hgb:(aO.cells [p.ns.v,p.az.v,p.fs.v]::J)[1+b]?=some (aI (A.flatMap jx)):=by rw[qv 1 b,jP];exact hb
  rw[hAl]at iP;rw[hlv];have P0:i90.mode=1:=rfl;unfold leave;simp only[P0,if_true,handed,hgb,iP,hfz,dU,hid,zi,hAl,ado]
 suffices kY:∀ K:fP,(∀(t':List IV)(J:aU)(B:Nat->Nat)(lv:IV)(A:List jF),mK (d+1) os.l os.l.length (qc (fun c=>gq p c.l) (fun c=>gp p (bz p) (startP p c.l)) cs.l) (pK (fun n=>((nY p.az.l n.id:Nat):Int)) (fun n=>gp p (bz p) n.at') p.ns.l) J B lv A->aN 121 t' [(2,lv)]->K .ret ⟨t',aI [p.ns.v,p.az.v,p.fs.v]::J⟩)->Ex (aM aR S (m+7)) (d+1) cQ (m+7) i90.body K ⟨t,[]⟩from kY _ fin
 clear fin;intro K fin;have c0:=fun d ah aK aa i=>h0 (m+7) Ω d ah aK aa i;have c1:=fun d ah aK aa i=>h1 (m+7) Ω d ah aK aa i;simp only[Pn.c]at c0 c1;have hone:=fun K J0 B0 sP A0 h0 t af hK=>@abl S (m+7) (d+1) cQ K p os Ω Ω J0 B0 sP A0 h0 t af hK;have Ue:∀ q:Pt,1+RV p (bz p) q=(gp p (bz p) q:Nat)/\gp p (bz p) q<=os.l.length:=fun q=>by have:=RU p (bz p) q;rw[←hos,ig,hos]at this;unfold gp;omega
 have PK:=fun K J0 B0 lv A0 h0 t af hK=>@abk S hS (m+7) (d+1) cQ K p os cs Ω Ω Ω (fun c=>gq p c.l) (fun c=>gp p (bz p) (startP p c.l)) J0 B0 lv A0 h0 (fun c hc d ah aK aa id=>h2 c hc (m+7) Ω d ah aK aa id) (fun c hc=>by
  obtain⟨pa,hpa,hp⟩:=h4 c hc;have hne:=(hg' c hc).2.1;cases qE:c.l with
  |nil=>exact absurd qE hne
  |cons z r =>
   rw[qE]at hpa hp
   have hl:=v7 iz (((z::r)[0]?).getD 0)
   have hst:pa.l[0]?=some (startP p (z::r)):=by unfold startP;rw[hpa];have:(bJ p (((z::r)[0]?).getD 0))[0]?=some (bJ p (((z::r)[0]?).getD 0))[0]:=cK Ω;rw[this];rfl
   refine⟨z,r,startP p (z::r),pa,RV p (bz p) (startP p (z::r)),rfl,hst,fun d ah aK aa id=>hp (m+7) Ω d ah aK aa id,(Ue _).1,(Ue _).2,fun d ah aK aa id=>?_⟩
   rw[←hos]
   exact h3 _ (m+7) Ω d ah aK aa id) t af hK
 have PL:=fun K fi J0 B0 lv A0 h0 t af hK=>@QU S hS (m+7) (d+1) cQ K p Ω os Ω Ω (fun n=>((nY p.az.l n.id:Nat):Int)) (fun n=>gp p (bz p) n.at') fi J0 B0 lv A0 h0 (fun n hn d ah aK aa id=>ML hS p n.id Ω (m+7) Ω d ah aK aa id) (fun n hn=>⟨RV p (bz p) n.at',(Ue _).1,(Ue _).2,fun d ah aK aa id=>by
  rw[←hos];exact h3 _ (m+7) Ω d ah aK aa id⟩) t af hK
 rw[show i90.body=.seq (i90.body.sub [0]) (.seq (i90.body.sub [1,0]) (.seq (i90.body.sub [1,1,0]) (.seq (i90.body.sub [1,1,1,0]) (.seq (i90.body.sub [1,1,1,1,0]) (.seq (i90.body.sub [1,1,1,1,1,0]) (.seq (i90.body.sub [1,1,1,1,1,1,0]) (i90.body.sub [1,1,1,1,1,1,1])))))))from rfl];generalize i90.body.sub [1,1,1,0]=T1 at hone ⊢;generalize i90.body.sub [1,1,1,1,1,0]=T2 at PK ⊢;generalize i90.body.sub [1,1,1,1,1,1,0]=T3 at PL ⊢;simp only[i90,IC.sub,V0,Xa,Xb,Xe,af,c0,rep,Y3,gW,dU];refine hone _ [.free,aI [aG aH 0,.nilsl,.nilsl,.nilsl]] (fun _=>0) (.slM (d+1) 2 0 1 1 4 false) [⟨0,lQ,.nilsl,[],.nilsl,[]⟩] ⟨.inr ⟨1,Ψ,rfl,rfl,rfl⟩,rfl,fun i a qg=>?_⟩ _ (by simp only[V0,Xa,Xe,af]) fun t1 J1 B1 lv1 A1 hD1 ht1=>?_
 ·cases i with
  |succ i=>simp at qg
  |zero =>
   simp only[qU,fZ]at qg
   subst qg
   exact⟨.inl ⟨rfl,rfl⟩,.inl ⟨rfl,rfl⟩,rfl,rfl,rfl,rfl⟩
 clear af;simp only[zb,zc]at ht1;simp only[V0,Xa,Xe,ht1,c1,bg];refine PK _ _ B1 lv1 A1 (hD1.more _) _ (by simp only[V0,Xa,Xe,ht1]) fun t2 J2 B2 A2 hD2 ht2=>?_;simp only[V0];refine PL _ _ J2 B2 lv1 A2 hD2 t2 ht2 fun t3 J3 B3 A3 Qi ht3=>?_;clear ht1 ht2;simp only[zb,zc]at ht3;simp only[V0,Xa,ht3];exact fin _ _ _ _ _ Qi (by simp only[V0,Xa,ht3])
end
section
variable {S:cZ}
theorem Vz(hS:bN S)(xs:List Int)(hxl:xs.length<=1000000000)(n:Int){m d:Nat}{ah:bR}{aK aa:aU}{id:Nat}{lv:IV}(hm:xs.length+4<=m)(h:RdI (d+1) (fun l=>if l=d then aK else ah l) lv xs):aM aR S m d ah aK aa id 92 [lv,aG aH n]=some (.r,.bool (xs.contains n),aa):=by
 obtain⟨m,rfl⟩:=me m 2;have main:∃ r,aM aR S (m+1+1) d ah aK aa id 92 [lv,aG aH n]=some r/\r=(.r,.bool (xs.contains n),aa):=by
  refine yz (i:=i92) (ns hS) rfl Δ (lb rfl) fun t af=>?_;simp only[V2,i92]at af;generalize(fun l=>if l=d then aK else ah l:bR)=cQ at h ⊢
  have hlen:∀ d aa aK,jL d cQ aK aa 1 lv=some (.p,aG aH (xs.length:Nat),aa):=fun d aa aK=>by
   rcases h with⟨q,rfl,rfl⟩|⟨l,b,cap,tg,_,rfl,_⟩
   ·exact yp q
   ·exact Zd
  simp only[i92,V0,seval];refine ze (fun jj st=>∃(i:Nat),xs.length-i<=jj/\i<=xs.length/\(xs.take i).contains n=false/\st.aa=[]/\aN 18 st.t [(0,lv),(1,aG aH n),(5,iv i)]) xs.length Ω ⟨0,Ω,Ω,Ψ,rfl,by simp only[V0,seval,af,eU]⟩ ?_;clear af;rintro jj ⟨t,bO⟩ KA ⟨i,hjj,hi,hc,ho,af⟩ bV cS dA;dsimp only at ho af;subst ho;simp only[V3]at af;by_cases h2:i<xs.length
  ·obtain⟨x,hx⟩:=gx (l:=xs) (i:=i) h2;have kM:bM (xs.flatMap aL) (i*1) 1=some [aG aH x]:=zd zf 0 1 hx Ω;have hw:=zq i;cases hb:x==n
   ·have mF:(xs.take (i+1)).contains n=false:=by rw[zt hx,yS,hc,hb];rfl
    rcases h with⟨q0,rfl,rfl⟩|⟨l,b,cap,tg,hl,rfl,oq⟩
    ·simp only[V0,seval,za q0 h2,hb, *];exact bV _ (q0.l.length-(i+1)) Ω ⟨i+1,Ω,Ω,mF,rfl,cD⟩
    ·have om:¬ l=d+1:=Ω;simp only[V0,seval,zm,hb, *];exact bV _ (xs.length-(i+1)) Ω ⟨i+1,Ω,Ω,mF,rfl,cD⟩
   ·rcases h with⟨q0,rfl,rfl⟩|⟨l,b,cap,tg,hl,rfl,oq⟩
    ·simp only[V0,seval,af,hlen,h2,za q0 h2,kM,hb];refine dA _ ?_;simp only[V0,seval,af];exact⟨.inr trivial,_,_,rfl,rfl,by rw[yu hx hb]⟩
    ·have om:¬ l=d+1:=Ω;simp only[V0,seval,zm,hb, *];refine dA _ ?_;simp only[V0,seval,af];exact⟨.inr trivial,_,_,rfl,rfl,by rw[yu hx hb]⟩
  ·simp only[V0,seval,af,hlen,h2];refine cS _ _ ?_;rw[gj Ω]at hc;simp only[V0,seval,af];exact⟨.inr trivial,_,_,rfl,rfl,by rw[hc]⟩
 obtain⟨r,h1,rfl⟩:=main;exact h1
theorem RG(hS:bN S)(a b:aS 1 aL)(hal:a.l.length<=1000000000):aP S (a.l.length+4) 94 [a.v,b.v] (.bool (decide (a.l=b.l))):=by
 refine gv i94 hS (a.l.length+3) zj fun m hm d ah t af=>?_;simp only[V2,i94]at af;cases hl:((a.l.length:Nat):Int) != ((b.l.length:Nat):Int);rotate_left
 ·have hne:¬ a.l=b.l:=fun e=>by rw[e]at hl;simp at hl
  simp only[i94,V0,Xa,Xe,reduceCtorEq,af,hl];simp only[decide_eq_false hne]
 have Nh:a.l.length=b.l.length:=by simp at hl;omega
 simp only[i94,V0,Xa,Xe,reduceCtorEq,af,hl];refine ze (fun jj st=>∃(i:Nat),a.l.length-i<=jj/\i<=a.l.length/\a.l.take i=b.l.take i/\st.aa=[]/\aN 26 st.t [(0,a.v),(1,b.v),(5,iv i)]) a.l.length Ω ⟨0,Ω,Ω,rfl,rfl,by simp only[V0,Xa,Xe,reduceCtorEq,af,eU]⟩ ?_;clear af;rintro jj ⟨t,bO⟩ KA ⟨i,hjj,hi,hc,ho,af⟩ bV cS dA;dsimp only at ho af;subst ho;simp only[V3]at af;by_cases h:i<a.l.length
 ·have h2:i<b.l.length:=Ω;have hx:a.l[i]?=some a.l[i]:=cK h;have hy:b.l[i]?=some b.l[i]:=cK h2;generalize a.l[i]=x at hx;generalize b.l[i]=y at hy;have kM:bM (a.l.flatMap aL) (i*1) 1=some [aG aH x]:=zd zf 0 1 hx Ω;have va:bM (b.l.flatMap aL) (i*1) 1=some [aG aH y]:=zd zf 0 1 hy Ω;have hw:=zq i;cases hb:x != y
  ·have hxy:x=y:=by simpa using hb
   simp only[V0,Xa,Xe,reduceCtorEq,af,h,za a h,za b h2,kM,va,hb,hw];exact bV _ (a.l.length-(i+1)) Ω ⟨i+1,Ω,Ω,by rw[lH,lH,hx,hy,hc,hxy],rfl,by simp only[V0,Xa,Xe,reduceCtorEq,af]⟩
  ·have hne:¬ a.l=b.l:=fun e=>by rw[e,hy]at hx;cases hx;simp at hb
   simp only[V0,Xa,Xe,reduceCtorEq,af,h,za a h,za b h2,kM,va,hb];refine dA _ ?_;simp only[V0,Xa,af,decide_eq_false hne]
 ·simp only[V0,Xa,Xe,reduceCtorEq,af,h];refine cS _ _ ?_;rw[gj Ω,gj Ω]at hc;simp only[V0,Xa,af,decide_eq_true hc]
end
def jY(p:Pn)(i:Nat)(a:Ar):Int:=match i with
 |0=>a.tw
 |_+1=>e8 p ((a.oc.l[0]?).getD 0)
def dS(p:Pn):Nat->List Ar->List Int->Option (List Int)
 |_,[],fs=>some fs
 | i,a::l,fs=>if (decide (0<i)&&(jY p i a==0||fs.contains (jY p i a)))=true then none else if (cE p a.oc.l (jY p i a)&&a.ic.l.all fun c=>cE p c.l (jY p i a))=true then dS p (i+1) l (if 0<i then fs++[jY p i a]else fs)else none
def fcB(p:Pn):Option (List Int)->Bool
 |none=>false
 |some fs=>decide (B7 fs=p.fs.l)
def fcV(As:List Ar)(n:Nat):Option (List Int)->IV
 |none=>.nilsl
 |some _=>.slC (As.flatMap lq) n 4 false
def nG(p:Pn)(As:List Ar):Bool:=fcB p (dS p 0 As [])
def lB(p:Pn)(As:List Ar)(i:Nat):List Ar:=As.mapIdx fun j a=>if j<i then{ a with tw:=jY p j a }else a
theorem YW{p:Pn}{As:List Ar}{i:Nat}:(lB p As i).length=As.length:=by unfold lB;exact List.length_mapIdx
theorem zb2{p:Pn}{As:List Ar}{i j:Nat}{a:Ar}(ha:As[j]?=some a):(lB p As i)[j]?=some (if j<i then{ a with tw:=jY p j a }else a):=by unfold lB;rw[XM,ha];rfl
theorem zcz{p:Pn}{As:List Ar}:lB p As 0=As:=by refine E8 fun j=>?_;unfold lB;rw[XM];cases As[j]?<;>simp
theorem Cw{p:Pn}{As:List Ar}{i:Nat}{a:Ar}(ha:As[i]?=some a):(lB p As i).set i { a with tw:=jY p i a }=lB p As (i+1):=by
 refine E8 fun j=>?_;by_cases hj:i=j
 ·subst hj;have hl:=(cU.1 ha).1;rw[oa (by rw[YW];exact hl),zb2 ha,bt (zmt _)]
 ·rw[nr hj];unfold lB;rw[XM,XM];cases As[j]? with
  |none=>rfl
  |some x =>
   simp only[gH,fZ]
   by_cases h:j<i
   ·rw[bt h,bt Ω]
   ·rw[bC h,bC Ω]
theorem KS{p:Pn}{As:List Ar}{a:Ar}(ha:As[0]?=some a):lB p As 1=As:=by
 rw[←Cw ha,zcz];have hl:=(cU.1 ha).1;refine E8 fun j=>?_;by_cases hj:0=j
 ·subst hj;rw[oa hl,ha];rfl
 ·rw[nr hj]
section
variable {S:cZ}
theorem Hr{A:List Ar}{k j:Nat}{a:Ar}(ha:A[k]?=some a)(hj:j+1<=4):bM (A.flatMap lq) (k*4+j) 1=bM (lq a) j 1:=zd Zs j 1 ha hj
theorem abf(hS:bN S)(p:Pn){m d:Nat}{ah:bR}{K:fP}(As:List Ar)(i n:Nat)(hn:As.length=n)(hnl:n<=1000)(a:Ar)(ha:As[i]?=some a)(hm:2000<=m)(hz:a.tw=0∨0<i)(Wz:0<i->a.oc.l≠[])
  (hsd:0<i->∀ d ah aK aa id,aM aR S m d ah aK aa id 91 [.agg p.c,aG aH ((a.oc.l[0]?).getD 0)]=some (.r,aG aH (e8 p ((a.oc.l[0]?).getD 0)),aa))
  (t:List IV) (J:aU) (fv:IV) (fs:List Int) (hfl:fs.length<=i) (hO:cg aL 1 d 2 J fv fs) (af:aN 99 t [(1,.ptrM d 0 0),(4,.slM d 1 0 n n 4 false),(5,fv),(6,iv i)])
  (hR:(decide (0<i)&&(jY p i a==0||fs.contains (jY p i a)))=true->∀ t' J',aN 99 t' [(2,.nilsl),(3,.bool false)]->K .ret ⟨t',aI [p.ns.v,p.az.v,p.fs.v]::J'⟩)
  (hK:(decide (0<i)&&(jY p i a==0||fs.contains (jY p i a)))=false->∀ t' J' fv',cg aL 1 d 2 J' fv' (if 0<i then fs++[jY p i a]else fs)->aN 99 t' [(1,.ptrM d 0 0),(4,.slM d 1 0 n n 4 false),(5,fv'),(6,iv i)]->K .normal ⟨t',aI [p.ns.v,p.az.v,p.fs.v]::aI ((lB p As (i+1)).flatMap lq)::J'⟩) :
  Ex (aM aR S m) d ah m (i58.body.sub [1,1,1,0,1,0,0,1,0,0,0]) K ⟨t,aI [p.ns.v,p.az.v,p.fs.v]::aI ((lB p As i).flatMap lq)::J⟩:=by
 simp only[V3]at af
 have hil:=(cU.1 ha).1
 rcases i with -|i
 ·have hg0:decide (((0:Nat):Int)>0)=false:=rfl
  simp only[i58,IC.sub,V0,Xa,af,hg0]
  have h1:=hK rfl
  rw[KS ha]at h1
  rw[zcz]
  exact h1 _ _ fv hO (by simp only[V0,Xe,af,eU])
 have hpos:0<i+1:=Nat.succ_pos _
 have hg1:decide (((i+1:Nat):Int)>0)=true:=decide_eq_true Ω
 have cs:=hsd hpos
 have hne:=Wz hpos
 simp only[Pn.c]at cs
 have hg:=zb2 (p:=p) (i:=i+1) ha
 rw[bC (znj _)]at hg
 have hst:=Cw (p:=p) ha
 have hlen:=YW (p:=p) (As:=As) (i:=i+1)
 generalize lB p As (i+1)=L at hg hst hlen
 have Ww:bM (L.flatMap lq) ((i+1)*4+1) 1=some [a.oc.v]:=(Hr hg Ω).trans rfl
 have hc0:0<a.oc.l.length:=XK.2 hne
 have hic:∀ aa,dD aa 1 a.oc.v (aG aH 0)=some (.p,.ptrC (a.oc.l.flatMap aL) (0*1),aa):=fun aa=>za a.oc (i:=0) hc0
 have hrc:bM (a.oc.l.flatMap aL) (0*1) 1=some [aG aH ((a.oc.l[0]?).getD 0)]:=(zd (l:=a.oc.l) (i:=0) (x:=(a.oc.l[0]?).getD 0) zf 0 1 (by rw[cK hc0];rfl) Ω).trans rfl
 have ad1:jY p (i+1) a=e8 p ((a.oc.l[0]?).getD 0):=rfl
 rw[ad1]at hR hK hst
 generalize e8 p ((a.oc.l[0]?).getD 0)=f at hR hK cs hst ad1
 have hwr:gV (L.flatMap lq) ((i+1)*4) [aG aH f]=(L.set (i+1) { a with tw:=f }).flatMap lq:=by have:=ZH (x':={ a with tw:=f }) (vs:=[aG aH f]) (k:=0) Zs hg Ψ rfl;rwa [sY]at this
 rw[hst]at hwr
 have hfit:(i+1)*4+1<=(L.flatMap lq).length:=by rw[zl Zs,hlen];omega
 have hin:i+1<n:=Ω
 have Gr:∀ aa,dD aa 4 (.slM d 1 0 n n 4 false) (aG aH ((i+1:Nat):Int))=some (.p,.ptrM d 1 ((i+1)*4),aa):=fun aa=>by have:=zm (aa:=aa) (l:=d) (b:=1) (off:=0) (cap:=n) (z:=4) (z':=4) (tight:=false) (k:=.i64) hin;rw[fO]at this;exact this
 have uI:∀(vis:List Nat)(x y:aO)(R:aU),(b7 vis (J.length+1+1) (x::y::(J++R)))[1]?=some y:=fun vis x y R=>Yt (Q:=x::y::J) rfl vis R
 simp only[i58,IC.sub,V0,Xa,Xc,Xe, *]
 have hg2:=zb2 (p:=p) (i:=i+1+1) ha
 rw[bt (zmt _),ad1]at hg2
 have adu:=YW (p:=p) (As:=As) (i:=i+1+1)
 generalize lB p As (i+1+1)=L2 at hg2 adu hK
 have hrf:∀ x:Ar,L2[i+1]?=some x->bM (L2.flatMap lq) ((i+1)*4) 1=some [aG aH x.tw]:=fun x hx=>(zd Zs 0 1 hx Ω).trans rfl
 have hrf:=hrf _ hg2
 dsimp only at hrf
 have ael:∀ (x y:aO) (R aa:aU) (id:Nat),aM aR S m d ah (x::y::(J++R)) aa id 92 [fv,aG aH f]=some (.r,.bool (fs.contains f),aa):=fun x y R aa id=>Vz hS fs Ω f Ω (by
  rcases hO with⟨rfl,rfl⟩|⟨b,hne,rfl,hb⟩
  ·exact .inl ⟨lP 1 aL,rfl,rfl⟩
  ·refine .inr ⟨d,_,_,_,Ω,rfl,?_⟩;show(if d=d then x::y::(J++R)else ah d)[2+b]?=_
   rw[bt rfl,qv,jP,jP,gT (cU.1 hb).1];exact hb)
 cases g1:f==0
 rotate_left
 ·simp only[V0,Xa,Xb,Xe,af,Gr,hrf,g1]
  refine hR (by rw[g1];simp) _ _ ?_
  simp only[V0,Xa,Xe,af]
 cases g2:fs.contains f
 rotate_left
 ·simp only[V0,Xa,Xb,Xe, *]
  refine hR (by rw[g2];simp) _ _ ?_
  simp only[V0,Xa,Xe,af]
 obtain⟨e,fv',J2,b9,dX⟩:=zM (Pre:=[aI [p.ns.v,p.az.v,p.fs.v],aI (L2.flatMap lq)]) (n0:=J.length+1+1+1+1) (slot:=0) (k:=2) (ah:=ah) (R:=[.free,.free,.free]) zf hO (ys:=[f]) Ψ (by simp only[cu,dw];omega) (by simp only[cu,dw];omega) rfl rfl
 simp only[gM,gQ,fJ,lz,aL,zg,cu,dw,iL,fO]at b9
 rw[bt hpos]at hK
 simp only[V0,Xa,Xb,Xe,rep,zh,zk,zo,zu, *]
 exact hK (by rw[g1,g2];simp) _ _ _ dX (by simp only[V0,Xa,Xe,af])
end
def jS(p:Pn)(b:Ar):Bool:=cE p b.oc.l b.tw&&b.ic.l.all fun c=>cE p c.l b.tw
section
variable {S:cZ}
theorem abe(hS:bN S)(p:Pn){m d:Nat}{ah:bR}{K:fP}(L:List Ar)(i n:Nat)(hn:L.length=n)(hnl:n<=1000)(b:Ar)(hg:L[i]?=some b)(sW:b.ic.l.length<=1000)(hm:2000<=m)
  (hs1:∀ d ah aK aa id,aM aR S m d ah aK aa id 93 [.agg p.c,b.oc.v,aG aH b.tw]=some (.r,.bool (cE p b.oc.l b.tw),aa))
  (hs2:∀ c∈b.ic.l,∀ d ah aK aa id,aM aR S m d ah aK aa id 93 [.agg p.c,c.v,aG aH b.tw]=some (.r,.bool (cE p c.l b.tw),aa))
  (t:List IV) (J:aU) (fv:IV) (fs:List Int) (hO:cg aL 1 d 2 J fv fs) (af:aN 99 t [(1,.ptrM d 0 0),(4,.slM d 1 0 n n 4 false),(5,fv),(6,iv i)])
  (hR:jS p b=false->∀ t' J',aN 99 t' [(2,.nilsl),(3,.bool false)]->K .ret ⟨t',aI [p.ns.v,p.az.v,p.fs.v]::J'⟩)
  (hK:jS p b=true->∀ t' J',cg aL 1 d 2 J' fv fs->aN 99 t' [(1,.ptrM d 0 0),(4,.slM d 1 0 n n 4 false),(5,fv),(6,iv i)]->K .normal ⟨t',aI [p.ns.v,p.az.v,p.fs.v]::aI (L.flatMap lq)::J'⟩) :
  Ex (aM aR S m) d ah m (i58.body.sub [1,1,1,0,1,0,0,1,0,0,1]) K ⟨t,aI [p.ns.v,p.az.v,p.fs.v]::aI (L.flatMap lq)::J⟩:=by
 simp only[V3]at af
 have hil:=(cU.1 hg).1
 have hin:i<n:=Ω
 have Gr:∀ aa,dD aa 4 (.slM d 1 0 n n 4 false) (aG aH ((i:Nat):Int))=some (.p,.ptrM d 1 (i*4),aa):=fun aa=>by have:=zm (aa:=aa) (l:=d) (b:=1) (off:=0) (cap:=n) (z:=4) (z':=4) (tight:=false) (k:=.i64) hin;rw[fO]at this;exact this
 have sE:bM (L.flatMap lq) (i*4) 1=some [aG aH b.tw]:=(zd Zs 0 1 hg Ω).trans rfl
 have qm:bM (L.flatMap lq) (i*4+1) 1=some [b.oc.v]:=(Hr hg Ω).trans rfl
 have hr2:bM (L.flatMap lq) (i*4+2) 1=some [b.ic.v]:=(Hr hg Ω).trans rfl
 have uI:∀(J:aU)(vis:List Nat)(x y:aO)(R:aU),(b7 vis (J.length+1+1) (x::y::(J++R)))[1]?=some y:=fun J vis x y R=>Yt (Q:=x::y::J) rfl vis R
 simp only[Pn.c]at hs1 hs2
 unfold jS at hR hK
 cases g1:cE p b.oc.l b.tw
 ·rw[g1,ew]at hR
  simp only[i58,IC.sub,V0,Xa,Xe,af,Gr,uI,sE,qm,hs1,g1]
  exact hR rfl _ _ (by simp only[V0,Xa,Xe,af])
 rw[g1,pX]at hR hK
 simp only[i58,IC.sub,V0,Xa,Xe,af,Gr,uI,sE,qm,hs1,g1]
 refine ze (fun jj st=>∃(k:Nat)(J:aU),b.ic.l.length-k<=jj/\k<=b.ic.l.length/\((b.ic.l.take k).all fun c=>cE p c.l b.tw)=true/\cg aL 1 d 2 J fv fs/\st.aa=aI [p.ns.v,p.az.v,p.fs.v]::aI (L.flatMap lq)::J/\aN 99 st.t [(1,.ptrM d 0 0),(4,.slM d 1 0 n n 4 false),(5,fv),(6,iv i),(7,iv k)]) b.ic.l.length Ω ⟨0,_,Ω,Ω,rfl,hO.more _,rfl,by simp only[V0,Xa,Xe,af,eU]⟩ ?_
 clear af hO
 rintro jj ⟨t,aa⟩ KA ⟨k,J,hjj,hk,hall,hO,ho,af⟩ bV cS dA
 dsimp only at ho af
 subst ho
 simp only[V3]at af
 have hlen:∀ d2 ah aK aa,jL d2 ah aK aa 1 b.ic.v=some (.p,aG aH (b.ic.l.length:Nat),aa):=fun d2 ah aK aa=>yp b.ic
 by_cases h:k<b.ic.l.length
 rotate_left
 ·simp only[V0,Xa,Xe,af,Gr,hr2,hlen,h]
  refine cS _ _ ?_
  rw[gj Ω]at hall
  simp only[V0]
  exact hK hall _ _ hO (by simp only[V0,Xe,af])
 have hx:b.ic.l[k]?=some b.ic.l[k]:=cK h
 have hmem:=gU h
 generalize b.ic.l[k]=c at hx hmem
 have cs:=hs2 c hmem
 have kM:bM (b.ic.l.flatMap ia) (k*1) 1=some [c.v]:=zd zr 0 1 hx Ω
 have hw:=zq k
 cases g2:cE p c.l b.tw
 ·have Gu:(b.ic.l.all fun c=>cE p c.l b.tw)=false:=by refine Sy.2 fun ht=>?_;have:=ot.1 ht c hmem;rw[g2]at this;cases this
  simp only[V0,Xa,Xe,af,Gr,hr2,hlen,h,uI,sE,za b.ic h,kM,cs,g2]
  refine dA _ ?_
  simp only[V0]
  exact hR Gu _ _ (by simp only[V0,Xa,Xe,af])
 ·simp only[V0,Xa,Xe,af,Gr,hr2,hlen,h,uI,sE,za b.ic h,kM,cs,g2,hw]
  refine bV _ (b.ic.l.length-(k+1)) Ω ⟨k+1,_,Ω,Ω,?_,hO.more _,rfl,by simp only[V0,Xa,Xe,af]⟩
  rw[zt hx,Xy,hall]
  simp[g2]
end
theorem yW{p:Pn}{i:Nat}{a:Ar}{l:List Ar}{fs:List Int}:dS p i (a::l) fs=if (decide (0<i)&&(jY p i a==0||fs.contains (jY p i a)))=true then none else if jS p { a with tw:=jY p i a }=true then dS p (i+1) l (if 0<i then fs++[jY p i a]else fs)else none:=by
 conv=>lhs;unfold dS
 rfl
theorem ab1(a:Ar):∀ x∈lq a,Fz 6 x:=fun x hx=>by
 refine SD (n:=6) ?_;simp only[lq,fF,j4,k7]at hx;rcases hx with rfl|rfl|rfl|rfl
 ·rfl
 ·exact Y6 _ _
 ·exact Q3 _ _
 ·exact Y6 _ _
section
variable {S:cZ}
theorem RN(hS:bN S)(p:Pn)(iz:bQ p)(ha:p.az.l.length<=200)(hn:p.ns.l.length<=200)(hok:∀ n∈p.ns.l,∀ z∈bB p n.id,iw p z)(hE:jf p=0)(hg:∀ c∈aW p,c.length<=512/\c≠[]/\∀ z∈c,GD p z):∃ As:List Ar,uB p As/\∃ v N,aP S N 58 [.agg p.c] (.tuple [v,.bool (nG p As)]):=by
 obtain⟨As,hR,hAl,N0,h0⟩:=Hj hS p iz ha hn hok hE hg;have PZ:∀ i a,As[i]?=some a->(0<i->a.oc.l≠[])/\a.oc.l.length<=512/\(∀ c∈a.ic.l,c.l.length<=512)/\a.ic.l.length<=1000/\(a.tw=0):=fun i a qg=>by
  obtain⟨e1,e2,e3,e4⟩:=hR.el i a qg;have hil:=(cU.1 qg).1;have r5:∀ c∈a.ic.l,c.l∈aW p:=fun c hc=>by have:c.l∈a.ic.l.map (·.l):=HJ hc;rw[e3]at this;exact(tu.1 this).1
  have lY:(aW p).length<=400:=by
   have h2:=yP (bZ (bS p) (bW p)) id (aY p) [] [];have hdl:(aY p).length<=400:=by unfold aY;rw[eR,ig,ig,uF];omega
   unfold aW;rw[dw]at h2;omega
  have Qa:a.ic.l.length<=1000:=by have h1:=ep List.length e3;rw[ig]at h1;have h2:=XH (fun c=>decide (gq p c<=0)&&gp p (bz p) (startP p c)==i) (aW p);omega
  refine⟨fun h=>?_,?_,fun c hc=>(hg _ (r5 c hc)).1,Qa,e1⟩
  ·rw[e2];obtain⟨k,rfl⟩:∃ k,i=k+1:=⟨i-1,Ω⟩;have hk:k<(bz p).length:=by rw[hR.len]at hil;omega
   show((bz p)[k]?).getD []≠[];rw[cK hk];exact(hg _ (tu.1 ((yH p).mem_iff.1 (gU hk))).1).2.1
  ·rw[e2];rcases i with -|k
   ·exact NA _
   ·have hk:k<(bz p).length:=by rw[hR.len]at hil;omega
    show(((bz p)[k]?).getD []).length<=512;rw[cK hk];exact(hg _ (tu.1 ((yH p).mem_iff.1 (gU hk))).1).1
 obtain⟨N1,h1⟩:∃ N,∀ a∈As,aP S N 91 [.agg p.c,aG aH ((a.oc.l[0]?).getD 0)] (aG aH (e8 p ((a.oc.l[0]?).getD 0))):=Yz (P:=fun(a:Ar) N=>aP S N 91 [.agg p.c,aG aH ((a.oc.l[0]?).getD 0)] (aG aH (e8 p ((a.oc.l[0]?).getD 0)))) (fun a n m hnm h m' hm'=>h m' Ω) fun a _=>J7 hS p _ iz;obtain⟨N2,h2⟩:∃ N,∀ a∈As,∀ f:Int,aP S N 93 [.agg p.c,a.oc.v,aG aH f] (.bool (cE p a.oc.l f)):=Yz (P:=fun(a:Ar) N=>∀ f:Int,aP S N 93 [.agg p.c,a.oc.v,aG aH f] (.bool (cE p a.oc.l f))) (fun a n m hnm h f m' hm'=>h f m' Ω) fun a hma=>by obtain⟨i,hi⟩:=pY hma;exact EJ hS p iz a.oc (by have:=(PZ i a hi).2.1;omega)
 obtain⟨N3,h3⟩:∃ N,∀ c∈As.flatMap (fun a=>a.ic.l),∀ f:Int,aP S N 93 [.agg p.c,c.v,aG aH f] (.bool (cE p c.l f)):=Yz (P:=fun(c:aS 1 aL) N=>∀ f:Int,aP S N 93 [.agg p.c,c.v,aG aH f] (.bool (cE p c.l f))) (fun a n m hnm h f m' hm'=>h f m' Ω) fun c hmc=>by obtain⟨a,hma,hca⟩:=qS.1 hmc;obtain⟨i,hi⟩:=pY hma;exact EJ hS p iz c (by have:=(PZ i a hi).2.2.1 c hca;omega)
 refine⟨As,hR,fcV (lB p As As.length) As.length (dS p 0 As []),N0+N1+N2+N3+400000,sX i58 hS (N0+N1+N2+N3+399999) fun m hm d ah t af=>?_⟩;simp only[slotsOf,zb,zc,i58,Pn.c]at af;have c0:=fun d ah aK aa i h=>h0 m Ω d ah aK aa i h;simp only[Pn.c]at c0;have hone:=fun K i a qg t J fv fs hfl hO af hR hK=>@abf S hS p m d ah K As i As.length rfl Ω a qg Ω (.inl (PZ i a qg).2.2.2.2) (PZ i a qg).1 (fun _ d ah aK aa id=>h1 a (j5 qg) m Ω d ah aK aa id) t J fv fs hfl hO af hR hK;have PK:=fun K i a qg b (hbo:b.oc=a.oc) (Jx:b.ic=a.ic) L hL hg t J fv fs hO af hR hK=>@abe S hS p m d ah K L i As.length hL Ω b hg (by rw[Jx];exact(PZ i a qg).2.2.2.1) Ω (fun d ah aK aa id=>by rw[hbo];exact h2 a (j5 qg) b.tw m Ω d ah aK aa id) (fun c hc d ah aK aa id=>h3 c (qS.2 ⟨a,j5 qg,by rw[←Jx];exact hc⟩) b.tw m Ω d ah aK aa id) t J fv fs hO af hR hK;rw[show i58.body=.seq (i58.body.sub [0]) (.seq (i58.body.sub [1,0]) (.seq (i58.body.sub [1,1,0]) (.seq (.seq (i58.body.sub [1,1,1,0,0]) (.block 0 (.loop (.seq (.seq (i58.body.sub [1,1,1,0,1,0,0,0,0]) (i58.body.sub [1,1,1,0,1,0,0,0,1])) (.seq (.block 1 (.seq (i58.body.sub [1,1,1,0,1,0,0,1,0,0,0]) (i58.body.sub [1,1,1,0,1,0,0,1,0,0,1]))) (i58.body.sub [1,1,1,0,1,0,0,1,1])))))) (.seq (i58.body.sub [1,1,1,1,0]) .ret))))from rfl];generalize i58.body.sub [1,1,1,0,1,0,0,1,0,0,0]=T1 at hone ⊢;generalize i58.body.sub [1,1,1,0,1,0,0,1,0,0,1]=T2 at PK ⊢;simp only[i58,IC.sub,V0,Xa,Xb,Xe,af,c0];unfold nG;generalize hG:dS p 0 As []=G;have hd0:As.drop 0=As:=rfl;refine ze (fun jj st=>∃(i:Nat)(J:aU)(fv:IV)(fs:List Int),As.length-i<=jj/\i<=As.length/\dS p i (As.drop i) fs=G/\fs.length<=i/\cg aL 1 d 2 J fv fs/\st.aa=aI [p.ns.v,p.az.v,p.fs.v]::aI ((lB p As i).flatMap lq)::J/\aN 99 st.t [(1,.ptrM d 0 0),(4,.slM d 1 0 As.length As.length 4 false),(5,fv),(6,iv i)]) As.length Ω ⟨0,[],.nilsl,[],Ω,Ω,hG,Ψ,.inl ⟨rfl,rfl⟩,by rw[zcz],by simp only[V0,Xa,Xe,af,eU]⟩ ?_;clear af;rintro jj ⟨t,aa⟩ KA ⟨i,J,fv,fs,hjj,hi,l5,hfl,hO,ho,af⟩ bV cS dA;dsimp only at ho af;subst ho;simp only[V3]at af;by_cases h:i<As.length;rotate_left
 ·simp only[V0,Xa,Xe,af,h];refine cS _ _ ?_;obtain rfl:i=As.length:=Ω;rw[VP (dz _)]at l5;unfold dS at l5;subst l5;have hbn:∀(x y:aO)(R:aU),RdI (d+1) (fun l=>if l=d then b7 [] (J.length+1+1) (x::y::(J++R))else ah l) fv fs:=fun x y R=>by
   rcases hO with⟨rfl,rfl⟩|⟨b,hne,rfl,hb⟩
   ·exact .inl ⟨lP 1 aL,rfl,rfl⟩
   ·refine .inr ⟨d,_,_,_,Ω,rfl,?_⟩;show(if d=d then b7 [] (J.length+1+1) (x::y::(J++R))else ah d)[2+b]?=_
    rw[bt rfl];have h3:(x::y::J)[2+b]?=some (aI (fs.flatMap aL)):=by rw[qv,jP,jP];exact hb
    exact Yt h3 [] R
  obtain⟨q,hq,cn⟩:=Dh hS fs Ω (aa:=aI [p.ns.v,p.az.v,p.fs.v]::aI ((lB p As As.length).flatMap lq)::(J++[.free,.free])) (id:=J.length+2) (hbn (aI [p.ns.v,p.az.v,p.fs.v]) (aI ((lB p As As.length).flatMap lq)) [.free,.free]) (m:=m) Ω;have pU:q.l.length<=100000:=by rw[hq];have:=IY fs;omega
  have cs:=fun d ah aK aa id=>RG hS q p.fs Ω m Ω d ah aK aa id;rw[hq]at cs;simp only[V0,Xa,Xe,af,cn,cs];obtain⟨m,rfl⟩:=me m 9;have Uk:((lB p As As.length).flatMap lq).mapM (freeze (m+7) d (aI [p.ns.v,p.az.v,p.fs.v]::aI ((lB p As As.length).flatMap lq)::(J++[.free,.free])))=some ((lB p As As.length).flatMap lq):=zS fun x hx=>by obtain⟨a,_,hxa⟩:=qS.1 hx;exact ab1 a x hxa _ Ω _ _
  have f1:=zfg (b:=1) Zs Uk rfl;rw[YW]at f1;refine⟨_,rfl,?_⟩;show([IV.slM d 1 0 As.length As.length 4 false,.bool (decide (B7 fs=p.fs.l))].mapM (freeze (m+8) d (aI [p.ns.v,p.az.v,p.fs.v]::aI ((lB p As As.length).flatMap lq)::(J++[.free,.free])))).map IV.tuple=_;rw[yI f1 (yI rfl zck)];rfl
 have hx:As[i]?=some As[i]:=cK h;have rA:As.drop i=As[i]::As.drop (i+1):=HM h;rw[rA]at l5;generalize As[i]=a at hx l5;rw[yW]at l5;have hw:=zq i;have ae3:∀ t' J',G=none->aN 99 t' [(2,.nilsl),(3,.bool false)]->MX d ah i58.res m (.tuple [fcV (lB p As As.length) As.length G,.bool (fcB p G)]) .ret ⟨t',aI [p.ns.v,p.az.v,p.fs.v]::J'⟩:=fun t' J' hn ht=>by subst hn;simp only[zb,zc]at ht;obtain⟨m,rfl⟩:=me m 5;simp only[i58,V0,ht];exact⟨_,rfl,rfl⟩
 simp only[V0,Xa,Xe,af,h];refine hone _ i a hx _ J fv fs hfl hO (by simp only[V0,Xe,af]) (fun hc t' J' ht'=>?_) (fun hc t' J' fv' wG ht'=>?_)
 ·rw[hc,bt rfl]at l5;refine dA _ ?_;exact ae3 t' J' l5.symm ht'
 clear af;rw[hc,bC Δ]at l5;have hg2:=zb2 (p:=p) (i:=i+1) hx;rw[bt (zmt _)]at hg2;refine PK _ i a hx { a with tw:=jY p i a } rfl rfl (lB p As (i+1)) YW hg2 t' J' fv' _ wG ht' (fun mF t2 J2 ht2=>?_) (fun mF t2 J2 dX ht2=>?_)
 ·rw[mF,bC Δ]at l5;refine dA _ ?_;exact ae3 t2 J2 l5.symm ht2
 ·rw[mF,bt rfl]at l5;simp only[V3]at ht2;simp only[V0,Xa,ht2,hw];refine bV _ (As.length-(i+1)) Ω ⟨i+1,_,_,_,Ω,Ω,l5,?_,dX,rfl,by simp only[V0,Xa,Xe,ht2]⟩;split
  ·rw[eR,cu,dw];omega
  ·omega
end
section
variable {S:cZ}
theorem EN(hS:bN S)(p:Pn)(hE:jf p≠0):∃ N,aP S N 32 [.agg p.c] (aG aH (jf p)):=by obtain⟨N0,h0⟩:=zap hS p;refine⟨N0+12,gv i32 hS (N0+11) zn fun m hm d ah t af=>?_⟩;simp only[slotsOf,zb,zc,i32,Pn.c]at af;have c0:=h0 m Ω;simp only[Pn.c]at c0;have g:(jf p != 0)=true:=bne_iff_ne.2 hE;simp only[i32,V0,Xa,Xb,Xe,af,c0,g]
theorem Ho(hS:bN S)(p:Pn)(iz:bQ p)(ha:p.az.l.length<=200)(hn:p.ns.l.length<=200)(hok:∀ n∈p.ns.l,∀ z∈bB p n.id,iw p z)(hE:jf p=0)(hg:∀ c∈aW p,c.length<=512/\c≠[]/\∀ z∈c,GD p z):∃ As:List Ar,uB p As/\∃ N,aP S N 32 [.agg p.c] (aG aH (bif nG p As then 0 else 12)):=by
 obtain⟨N0,h0⟩:=zap hS p;rw[hE]at h0;obtain⟨As,hR,v,N1,h1⟩:=RN hS p iz ha hn hok hE hg;refine⟨As,hR,N0+N1+12,gv i32 hS (N0+N1+11) zn fun m hm d ah t af=>?_⟩;simp only[slotsOf,zb,zc,i32,Pn.c]at af;have c0:=h0 m Ω;have c1:=h1 m Ω;simp only[Pn.c]at c0 c1;have z0:((0:Int) != 0)=false:=rfl;cases g:nG p As
 ·rw[g]at c1;simp only[i32,V0,Xa,Xb,Xe,af,c0,z0,c1,bg];rfl
 ·rw[g]at c1;simp only[i32,V0,Xa,Xb,Xe,af,c0,z0,c1,bg];rfl
end
structure EW(p:Pn)(z:Int):Prop where
 bad:jf p≠0->z=jf p
 good:jf p=0->∃ As:List Ar,uB p As/\z=bif nG p As then 0 else 12
section
variable {S:cZ}
theorem EM(hS:bN S)(p:Pn)(iz:bQ p)(ha:p.az.l.length<=200)(hn:p.ns.l.length<=200):∃ z,EW p z/\∃ N,aP S N 32 [.agg p.c] (aG aH z):=by
 by_cases hE:jf p=0
 ·have h:=WT hE;obtain⟨As,hR,N,hN⟩:=Ho hS p iz ha hn h.agm hE (h.qG ha);exact⟨_,⟨fun e=>absurd hE e,fun _=>⟨As,hR,rfl⟩⟩,N,hN⟩
 ·obtain⟨N,hN⟩:=EN hS p hE;exact⟨_,⟨fun _=>rfl,fun e=>absurd e hE⟩,N,hN⟩
end
section
variable {S:cZ}
theorem EO(hS:bN S)(xs:List Int)(hxl:xs.length<=1000000000){m d:Nat}{ah:bR}{aK aa:aU}{id:Nat}{lv:IV}(hm:xs.length+5<=m)(h:RdI (d+1) (fun l=>if l=d then aK else ah l) lv xs):aM aR S m d ah aK aa id 34 [lv]=some (.r,.bool (dP xs),aa):=by
 obtain⟨m,rfl⟩:=me m 2;have main:∃ r,aM aR S (m+1+1) d ah aK aa id 34 [lv]=some r/\r=(.r,.bool (dP xs),aa):=by
  refine yz (i:=i34) (ns hS) rfl Δ (lb rfl) fun t af=>?_;simp only[slotsOf,zb,zc,i34]at af;generalize(fun l=>if l=d then aK else ah l:bR)=cQ at h ⊢
  have hlen:∀ d aa aK,jL d cQ aK aa 1 lv=some (.p,aG aH (xs.length:Nat),aa):=fun d aa aK=>by
   rcases h with⟨q,rfl,rfl⟩|⟨l,b,cap,tg,_,rfl,_⟩
   ·exact yp q
   ·exact Zd
  simp only[i34,V0,seval];refine ze (fun jj st=>∃(i:Nat),xs.length-i<=jj/\(1<=i/\i<=xs.length+1)/\rK xs i/\st.aa=[]/\aN 20 st.t [(0,lv),(3,iv i)]) xs.length Ω ⟨1,Ω,Ω,fun i x y h _ _=>by omega,rfl,by simp only[V0,seval,af,Xx]⟩ ?_;clear af;rintro jj ⟨t,bO⟩ KA ⟨i,hjj,hi,ha,ho,af⟩ bV cS dA;dsimp only at ho af;subst ho;simp only[V3]at af;by_cases h2:i<xs.length
  ·obtain⟨x,hx⟩:=gx (l:=xs) (i:=i) h2;have h0:i-1<xs.length:=Ω;obtain⟨y,hy⟩:=gx (l:=xs) (i:=i-1) h0;have kM:bM (xs.flatMap aL) (i*1) 1=some [aG aH x]:=zd zf 0 1 hx Ω;have va:bM (xs.flatMap aL) ((i-1)*1) 1=some [aG aH y]:=zd zf 0 1 hy Ω;have hw:=zq i;have hv:aT .i64 ((i:Int)-1)=((i-1:Nat):Int):=we;by_cases hb:x<=y
   ·have hf:dP xs=false:=by rw[←sZ];intro hc;have:=yx.1 hc (i-1) y x Ω hy (by rw[show i-1+1=i by omega];exact hx);omega
    rcases h with⟨q0,rfl,rfl⟩|⟨l,b,cap,tg,hl,rfl,oq⟩
    ·simp only[V0,seval,za q0 h2,za q0 h0,mM,hb, *];refine dA _ ?_;simp only[V0,seval,af];exact⟨.inr trivial,_,_,rfl,rfl,by rw[hf]⟩
    ·have om:¬ l=d+1:=Ω;simp only[V0,seval,zm,mM,hb, *];refine dA _ ?_;simp only[V0,seval,af];exact⟨.inr trivial,_,_,rfl,rfl,by rw[hf]⟩
   ·have hst:rK xs (i+1):=fun j u v hj hu hv=>by
     by_cases hj2:j+1<i
     ·exact ha j u v hj2 hu hv
     ·have e:j=i-1:=Ω;subst e;rw[show i-1+1=i by omega]at hv;rw[hy]at hu;rw[hx]at hv;cases hu;cases hv;omega
    rcases h with⟨q0,rfl,rfl⟩|⟨l,b,cap,tg,hl,rfl,oq⟩
    ·simp only[V0,seval,za q0 h2,za q0 h0,mM,hb, *];exact bV _ (q0.l.length-(i+1)) Ω ⟨i+1,Ω,Ω,hst,rfl,cD⟩
    ·have om:¬ l=d+1:=Ω;simp only[V0,seval,zm,mM,hb, *];exact bV _ (xs.length-(i+1)) Ω ⟨i+1,Ω,Ω,hst,rfl,cD⟩
  ·simp only[V0,seval,af,hlen,h2];refine cS _ _ ?_;have hf:dP xs=true:=yx.2 fun j u v hj hu hv=>ha j u v Ω hu hv;simp only[V0,seval,af];exact⟨.inr trivial,_,_,rfl,rfl,by rw[hf]⟩
 obtain⟨r,h1,rfl⟩:=main;exact h1
def No(p:Pn)(sh x:Int):Bool:=bif sh==1 then(dN p x).isSome else bif sh==2 then(mH p x).isSome else p.fs.l.contains x
theorem Hi(hS:bN S)(p:Pn)(hv:bQ p)(sh x:Int):∃ N,aP S N 143 [.agg p.c,aG aH sh,aG aH x] (.bool (No p sh x)):=by
 obtain⟨N1,h1⟩:=ZU hS p x;obtain⟨q,hq,N2,h2⟩:=Yq hS p x (fun f hf=>by have:=hv f hf;omega);obtain⟨N3,h3⟩:=wK hS p.fs x;refine⟨N1+N2+N3+12,gv i143 hS (N1+N2+N3+11) zj fun m hm d ah t af=>?_⟩;simp only[V2,Xb,i143,Pn.c]at af;have c1:=h1 m Ω;have c2:=h2 m Ω;have c3:=h3 m Ω;simp only[Pn.c,zg,Nd.c,Ac.c]at c1 c2 c3;unfold No;cases g1:sh==1
 ·cases g2:sh==2
  ·simp only[i143,V0,Xa,Xe,af,c3,g1,g2];rfl
  ·simp only[i143,V0,Xa,Xb,Xe,af,c2,bg,g1,g2];rfl
 ·simp only[i143,V0,Xa,Xb,Xe,af,c1,bg,g1];rfl
end
section
variable {S:cZ}
theorem EL(hS:bN S)(p:Pn)(hv:bQ p)(f:Ft)(hfl:f.parts.l.length<=1000000):∃ N,aP S N 98 [.agg p.c,.agg f.c] (.bool (f.parts.l.all fun x=>No p (bF f.kind) x)):=by
 obtain⟨N1,h1⟩:=Zq hS f.kind;obtain⟨N2,h2⟩:∃ N,∀ x∈f.parts.l,aP S N 143 [.agg p.c,aG aH (bF f.kind),aG aH x] (.bool (No p (bF f.kind) x)):=Yz (P:=fun(x:Int) N=>aP S N 143 [.agg p.c,aG aH (bF f.kind),aG aH x] (.bool (No p (bF f.kind) x))) (fun a n m hnm h m' hm'=>h m' Ω) fun x _=>Hi hS p hv _ x;refine⟨N1+N2+f.parts.l.length+31,gv i98 hS (N1+N2+f.parts.l.length+30) zj fun m hm d ah t af=>?_⟩;simp only[V2,i98,Pn.c,Ft.c,zg]at af;have c1:=h1 m Ω;simp only[zg]at c1;simp only[i98,V0,Xb,Xe,af];refine ze (fun jj st=>∃(i:Nat)(J:aU),f.parts.l.length-i<=jj/\i<=f.parts.l.length/\((f.parts.l.take i).all fun x=>No p (bF f.kind) x)=true/\st.aa=aI [p.ns.v,p.az.v,p.fs.v]::aI [aG aH f.id,aG aH f.kind,aG aH f.cls,.str f.name.1,f.parts.v]::J/\aN 24 st.t [(2,.ptrM d 0 0),(3,.ptrM d 1 0),(5,iv i)]) f.parts.l.length Ω ⟨0,[],Ω,Ω,rfl,rfl,by simp only[V0,Xa,Xe,af,eU]⟩ ?_;clear af;rintro jj ⟨t,aa⟩ KA ⟨i,J,hjj,hi,hall,ho,af⟩ bV cS dA;dsimp only at ho af;subst ho;simp only[V3]at af;have hlen:∀ d2 ah aK aa,jL d2 ah aK aa 1 f.parts.v=some (.p,aG aH (f.parts.l.length:Nat),aa):=fun d2 ah aK aa=>yp f.parts;by_cases h:i<f.parts.l.length;rotate_left
 ·simp only[V0,Xa,Xe,af,hlen,h];refine cS _ _ ?_;rw[gj Ω]at hall;simp only[V0,Xa,af,hall]
 have hx:f.parts.l[i]?=some f.parts.l[i]:=cK h;have hmem:=gU h;generalize f.parts.l[i]=x at hx hmem;have c2:=h2 x hmem m Ω;simp only[Pn.c]at c2;have kM:bM (f.parts.l.flatMap aL) (i*1) 1=some [aG aH x]:=zd zf 0 1 hx Ω;have hw:=zq i;cases g:No p (bF f.kind) x
 ·have Gu:(f.parts.l.all fun x=>No p (bF f.kind) x)=false:=by refine Sy.2 fun ht=>?_;have:=ot.1 ht x hmem;rw[g]at this;cases this
  simp only[V0,Xa,Xe,af,hlen,h,c1,za f.parts h,kM,c2,g,Xb];refine dA _ ?_;simp only[V0,Xa,af,Gu]
 ·simp only[V0,Xa,Xe,af,hlen,h,c1,za f.parts h,kM,c2,g,Xb,hw];refine bV _ (f.parts.l.length-(i+1)) Ω ⟨i+1,_,Ω,Ω,?_,rfl,by simp only[V0,Xa,Xe,af]⟩;rw[zt hx,Xy,hall];simp[g]
def j0(f g:Ft):Bool:=bif (bF f.kind==2||bF f.kind != bF g.kind)||(bF f.kind==3&&f.kind != g.kind)then false else f.parts.l.any fun x=>g.parts.l.contains x
theorem RQ(hS:bN S)(f g:Ft)(hfl:f.parts.l.length<=1000000):∃ N,aP S N 60 [.agg f.c,.agg g.c] (.bool (j0 f g)):=by
 obtain⟨N1,h1⟩:=Zq hS f.kind;obtain⟨N2,h2⟩:=Zq hS g.kind;obtain⟨N3,h3⟩:∃ N,∀ x∈f.parts.l,aP S N 99 [g.parts.v,aG aH x] (.bool (g.parts.l.contains x)):=Yz (P:=fun(x:Int) N=>aP S N 99 [g.parts.v,aG aH x] (.bool (g.parts.l.contains x))) (fun a n m hnm h m' hm'=>h m' Ω) fun x _=>wK hS g.parts x;refine⟨N1+N2+N3+f.parts.l.length+31,gv i60 hS (N1+N2+N3+f.parts.l.length+30) zj fun m hm d ah t af=>?_⟩;simp only[V2,i60,Ft.c,zg]at af;have c1:=h1 m Ω;have c2:=h2 m Ω;simp only[zg]at c1 c2;have main:∀(t:List IV)(J:aU)(K:fP),aN 47 t [(2,.ptrM d 0 0),(3,.ptrM d 1 0)]->(∀ t' J',aN 47 t' [(4,.bool (f.parts.l.any fun x=>g.parts.l.contains x))]->K .ret ⟨t',J'⟩)->Ex (aM aR S m) d ah m (i60.body.sub [1,1]) K ⟨t,aI [aG aH f.id,aG aH f.kind,aG aH f.cls,.str f.name.1,f.parts.v]::aI [aG aH g.id,aG aH g.kind,aG aH g.cls,.str g.name.1,g.parts.v]::J⟩:=fun t J K af hK=>by
  simp only[zb,zc]at af;simp only[i60,IC.sub,V0];refine ze (fun jj st=>∃(i:Nat)(J:aU),f.parts.l.length-i<=jj/\i<=f.parts.l.length/\((f.parts.l.take i).any fun x=>g.parts.l.contains x)=false/\st.aa=aI [aG aH f.id,aG aH f.kind,aG aH f.cls,.str f.name.1,f.parts.v]::aI [aG aH g.id,aG aH g.kind,aG aH g.cls,.str g.name.1,g.parts.v]::J/\aN 47 st.t [(2,.ptrM d 0 0),(3,.ptrM d 1 0),(5,iv i)]) f.parts.l.length Ω ⟨0,J,Ω,Ω,rfl,rfl,by simp only[V0,Xa,Xe,af,eU]⟩ ?_;clear af;rintro jj ⟨t,aa⟩ KA ⟨i,J,hjj,hi,hall,ho,af⟩ bV cS dA;dsimp only at ho af;subst ho;simp only[V3]at af;have hlen:∀ d2 ah aK aa,jL d2 ah aK aa 1 f.parts.v=some (.p,aG aH (f.parts.l.length:Nat),aa):=fun d2 ah aK aa=>yp f.parts;by_cases h:i<f.parts.l.length;rotate_left
  ·simp only[V0,Xa,Xe,af,hlen,h];refine cS _ _ ?_;rw[gj Ω]at hall;simp only[V0];exact hK _ _ (by simp only[V0,Xa,af,hall])
  have hx:f.parts.l[i]?=some f.parts.l[i]:=cK h;have hmem:=gU h;generalize f.parts.l[i]=x at hx hmem;have c3:=h3 x hmem m Ω;have kM:bM (f.parts.l.flatMap aL) (i*1) 1=some [aG aH x]:=zd zf 0 1 hx Ω;have hw:=zq i;cases q:g.parts.l.contains x
  ·simp only[V0,Xa,Xe,za f.parts h, *];refine bV _ (f.parts.l.length-(i+1)) Ω ⟨i+1,_,Ω,Ω,?_,rfl,by simp only[V0,Xa,Xe,af]⟩;rw[zt hx,SR,hall,Xv,q];rfl
  ·have Gu:(f.parts.l.any fun x=>g.parts.l.contains x)=true:=rR.2 ⟨x,hmem,q⟩;simp only[V0,Xa,Xe,za f.parts h, *];refine dA _ ?_;simp only[V0];exact hK _ _ (by simp only[V0,Xa,af,Gu])
 rw[show i60.body=.seq (i60.body.sub [0]) (.seq (.seq (i60.body.sub [1,0,0]) (i60.body.sub [1,0,1])) (i60.body.sub [1,1]))from rfl];generalize i60.body.sub [1,1]=T at main ⊢;unfold j0;cases g1:bF f.kind==2;rotate_left
 ·simp only[i60,IC.sub,V0,Xa,Xb,Xe,af,c1,g1,iY,bT]
 cases g2:bF f.kind != bF g.kind;rotate_left
 ·simp only[i60,IC.sub,V0,Xa,Xb,Xe,iY,Kq,bT, *]
 cases g3:bF f.kind==3
 ·simp only[i60,IC.sub,V0,Xa,Xb,Xe, *];refine main _ _ _ (by simp only[V0,Xa,Xe,af]) fun t' J' ht'=>?_;simp only[zb,zc]at ht';simp only[V0,ht',ew,Sr,bL]
 cases g4:f.kind != g.kind;rotate_left
 ·simp only[i60,IC.sub,V0,Xa,Xb,Xe,Kq,bT, *]
 ·simp only[i60,IC.sub,V0,Xa,Xb,Xe, *];refine main _ _ _ (by simp only[V0,Xa,Xe,af]) fun t' J' ht'=>?_;simp only[zb,zc]at ht';simp only[V0,ht',Sr,bL]
end
def kU(fs:List Ft):Nat->Bool
 |0=>false
 | i+1=>kU fs i||(match fs[i]? with
  |some x=>(fs.take i).any fun y=>j0 x y
  | none=>false)
def ox(fs:List Ft):Bool:=kU fs fs.length
theorem zdh{fs:List Ft}{i:Nat}(h:kU fs i=true):∀ k,kU fs (i+k)=true
 |0=>h
 |k+1=>by show(kU fs (i+k)||_)=true;rw[zdh h k,iY]
section
variable {S:cZ}
theorem Vs(hS:bN S)(s:Sv)(hl:s.ft.l.length<=100000)(hfl:∀ f∈s.ft.l,f.parts.l.length<=1000000):∃ N,aP S N 35 [.agg s.c] (.bool (ox s.ft.l)):=by
 obtain⟨N1,h1⟩:∃ N,∀ f∈s.ft.l,∀ g∈s.ft.l,aP S N 60 [.agg f.c,.agg g.c] (.bool (j0 f g)):=Yz (P:=fun(f:Ft) N=>∀ g∈s.ft.l,aP S N 60 [.agg f.c,.agg g.c] (.bool (j0 f g))) (fun a n m hnm h g hg m' hm'=>h g hg m' Ω) fun f hf=>Yz (P:=fun(g:Ft) N=>aP S N 60 [.agg f.c,.agg g.c] (.bool (j0 f g))) (fun a n m hnm h m' hm'=>h m' Ω) fun g _=>RQ hS f g (hfl f hf);refine⟨N1+s.ft.l.length+31,gv i35 hS (N1+s.ft.l.length+30) zj fun m hm d ah t af=>?_⟩;simp only[slotsOf,zb,zc,i35,Sv.c]at af;simp only[i35,V0,af];have hlen:∀ d2 ah aK aa,jL d2 ah aK aa 1 s.ft.v=some (.p,aG aH (s.ft.l.length:Nat),aa):=fun d2 ah aK aa=>yp s.ft;refine ze (fun jj st=>∃(i:Nat)(J:aU),s.ft.l.length-i<=jj/\i<=s.ft.l.length/\kU s.ft.l i=false/\st.aa=aI [s.pl.ns.v,s.pl.az.v,s.pl.fs.v,s.ft.v]::J/\aN 28 st.t [(1,.ptrM d 0 0),(3,iv i)]) s.ft.l.length Ω ⟨0,[],Ω,Ω,rfl,rfl,by simp only[V0,Xa,Xe,af,eU]⟩ ?_;clear af;rintro jj ⟨t,aa⟩ KA ⟨i,J,hjj,hi,hno,ho,af⟩ bV cS dA;dsimp only at ho af;subst ho;simp only[V3]at af;by_cases h:i<s.ft.l.length;rotate_left
 ·simp only[V0,Xa,Xe,af,hlen,h];refine cS _ _ ?_;obtain rfl:i=s.ft.l.length:=Ω;have:ox s.ft.l=false:=hno;simp only[V0,Xa,af,this]
 have hx:s.ft.l[i]?=some s.ft.l[i]:=cK h;have hmem:=gU h;generalize s.ft.l[i]=x at hx hmem;have kM:bM (s.ft.l.flatMap Ft.c) (i*5) 5=some [aG aH x.id,aG aH x.kind,aG aH x.cls,.str x.name.1,x.parts.v]:=(zd Ft.aZ 0 5 hx Ω).trans rfl;have hw:=zq i;have hst:kU s.ft.l (i+1)=(kU s.ft.l i||(s.ft.l.take i).any fun y=>j0 x y):=by
  conv=>lhs;unfold kU
  rw[hx]
 rw[hno,iS]at hst;simp only[V0,Xa,Xe,af,hlen,h];refine ze (fun kk st=>∃(j:Nat)(J:aU),i-j<=kk/\j<=i/\((s.ft.l.take j).any fun y=>j0 x y)=false/\st.aa=aI [s.pl.ns.v,s.pl.az.v,s.pl.fs.v,s.ft.v]::J/\aN 28 st.t [(1,.ptrM d 0 0),(3,iv i),(4,iv j)]) i Ω ⟨0,J,Ω,Ω,rfl,rfl,by simp only[V0,Xa,Xe,af,eU]⟩ ?_;clear af;rintro kk ⟨t,aa⟩ KB ⟨j,J,hkk,hj,hall,ho,af⟩ jo lX mE;dsimp only at ho af;subst ho;simp only[V3]at af;by_cases hji:j<i;rotate_left
 ·have afm:¬ ((j:Int)<(i:Int)):=Ω;simp only[V0,Xa,Xe,af,afm];refine lX _ _ ?_;obtain rfl:j=i:=Ω;simp only[V0,Xa,Xe,af,hw];exact bV _ (s.ft.l.length-(j+1)) Ω ⟨j+1,_,Ω,Ω,by rw[hst];exact hall,rfl,by simp only[V0,Xa,Xe,af]⟩
 have afm:((j:Int)<(i:Int)):=Ω;have hjl:j<s.ft.l.length:=Ω;have hy:s.ft.l[j]?=some s.ft.l[j]:=cK hjl;have hmy:=gU hjl;generalize s.ft.l[j]=y at hy hmy;have cc:=h1 x hmem y hmy m Ω;simp only[Ft.c,zg]at cc;have va:bM (s.ft.l.flatMap Ft.c) (j*5) 5=some [aG aH y.id,aG aH y.kind,aG aH y.cls,.str y.name.1,y.parts.v]:=(zd Ft.aZ 0 5 hy Ω).trans rfl;have hwj:=zq j;cases q:j0 x y
 ·simp only[V0,Xa,Xe,za s.ft h,za s.ft hjl, *];refine jo _ (i-(j+1)) Ω ⟨j+1,_,Ω,Ω,?_,rfl,by simp only[V0,Xa,Xe,af]⟩;rw[zt hy,SR,hall,Xv,q];rfl
 ·have hty:(s.ft.l.take i).any (fun y=>j0 x y)=true:=rR.2 ⟨y,j5 (i:=j) (by rw[zlf hji];exact hy),q⟩;have hu:ox s.ft.l=true:=by unfold ox;have:=zdh (hst.trans hty) (s.ft.l.length-(i+1));rwa [show i+1+(s.ft.l.length-(i+1))=s.ft.l.length by omega]at this
  simp only[V0,Xa,Xe,za s.ft h,za s.ft hjl, *];refine mE _ ?_;refine dA _ ?_;simp only[V0,Xa,af,hu]
end
def gO(nm:ByteArray->Int)(p:Pn)(f:Ft)(e:Int):Bool:=bif e==3 then vq f else bif e==10 then !dP f.parts.l else bif e==2 then vp f else bif e==9 then qJ f else bif e==14 then vo nm f else bif e==1 then vn f else !(f.parts.l.all fun x=>No p (bF f.kind) x)
section
variable {S:cZ}
theorem RD(hS:bN S)(nm:ByteArray->Int)(s:Sv)(hv:bQ s.pl)(f:Ft)(hfl:f.parts.l.length<=1000000)(h7:∃ N,aP S N 97 [.str f.name.1] (aG aH (nm f.name.1))):∃ N,∀ e:Int,aP S N 59 [.agg s.c,.agg f.c,aG aH e] (.bool (gO nm s.pl f e)):=by
 obtain⟨N7,h7⟩:=h7;obtain⟨N1,h1⟩:=Zq hS f.kind;obtain⟨N2,h2⟩:=EL hS s.pl hv f hfl;refine⟨N7+N1+N2+f.parts.l.length+31,fun e=>gv i59 hS (N7+N1+N2+f.parts.l.length+30) zj fun m hm d ah t af=>?_⟩;simp only[V2,Xb,i59,Sv.c,Ft.c,zg]at af;have c7:=h7 m Ω;have c1:=h1 m Ω;have c2:=h2 m Ω;simp only[zg,Pn.c,Ft.c]at c1 c2;have hlen:∀ d2 ah aK aa,jL d2 ah aK aa 1 f.parts.v=some (.p,aG aH (f.parts.l.length:Nat),aa):=fun d2 ah aK aa=>yp f.parts;have hpl:=f.parts.gC;have U4:=fun d ah aK aa id=>EO hS f.parts.l Ω (m:=m) (d:=d) (ah:=ah) (aK:=aK) (aa:=aa) (id:=id) (lv:=f.parts.v) Ω (.inl ⟨f.parts,rfl,rfl⟩);unfold gO;cases e1:e==3;rotate_left
 ·simp only[i59,V0,Xa,Xb,Xe,af,hlen,e1,eZ,bT,vq]
 cases e2:e==10;rotate_left
 ·simp only[i59,V0,Xa,Xb,Xe,af,e1,e2,U4,bT,bL]
 cases e3:e==2;rotate_left
 ·unfold vp;cases g1:decide (f.id<1)
  ·cases g2:decide (1073741824<f.id)
   ·cases g3:decide (f.cls<1)
    ·simp only[i59,V0,Xa,Xb,Xe,eZ,bT,bL,iS, *]
    ·simp only[i59,V0,Xa,Xb,Xe,eZ,bT,bL,iS,iY, *]
   ·simp only[i59,V0,Xa,Xb,Xe,eZ,bT,bL,iS,iY, *]
  ·simp only[i59,V0,Xa,Xb,Xe,bT,bL,iY, *]
 cases e4:e==9;rotate_left
 ·simp only[i59,V0,Xa,Xb,Xe,bT,bL,qJ, *]
 cases e5:e==14;rotate_left
 ·unfold vo;cases g1:(f.name.1.toList==(bs []).toList)
  ·simp only[i59,V0,Xa,Xb,Xe,oy,bT,bL, *]
  ·simp only[i59,V0,Xa,Xb,Xe,oy,bT,bL,ew, *]
 cases e6:e==1;rotate_left
 ·unfold vn;cases g1:((f.parts.l.length:Nat):Int)==0
  ·cases g2:bF f.kind==1
   ·simp only[i59,V0,Xa,Xb,Xe,bT,bL,iS,ew, *]
   ·simp only[i59,V0,Xa,Xb,Xe,eZ,bT,bL,iS, *]
  ·simp only[i59,V0,Xa,Xb,Xe,bT,bL,iY, *]
 ·simp only[i59,V0,Xa,Xb,Xe,bL, *]
end
section
variable {S:cZ}
theorem Vt(hS:bN S)(nm:ByteArray->Int)(s:Sv)(hv:bQ s.pl)(hl:s.ft.l.length<=1000000)(hfl:∀ f∈s.ft.l,f.parts.l.length<=1000000)(h7:∀ f∈s.ft.l,∃ N,aP S N 97 [.str f.name.1] (aG aH (nm f.name.1))):∃ N,∀ e:Int,aP S N 33 [.agg s.c,aG aH e] (.bool (s.ft.l.any fun f=>gO nm s.pl f e)):=by
 obtain⟨N1,h1⟩:∃ N,∀ f∈s.ft.l,∀ e:Int,aP S N 59 [.agg s.c,.agg f.c,aG aH e] (.bool (gO nm s.pl f e)):=Yz (P:=fun(f:Ft) N=>∀ e:Int,aP S N 59 [.agg s.c,.agg f.c,aG aH e] (.bool (gO nm s.pl f e))) (fun a n m hnm h e m' hm'=>h e m' Ω) fun f hf=>RD hS nm s hv f (hfl f hf) (h7 f hf);refine⟨N1+s.ft.l.length+31,fun e=>gv i33 hS (N1+s.ft.l.length+30) zj fun m hm d ah t af=>?_⟩;simp only[V2,i33,Sv.c]at af;simp only[i33,V0,af];have hlen:∀ d2 ah aK aa,jL d2 ah aK aa 1 s.ft.v=some (.p,aG aH (s.ft.l.length:Nat),aa):=fun d2 ah aK aa=>yp s.ft;refine ze (fun jj st=>∃(i:Nat)(J:aU),s.ft.l.length-i<=jj/\i<=s.ft.l.length/\((s.ft.l.take i).any fun f=>gO nm s.pl f e)=false/\st.aa=aI [s.pl.ns.v,s.pl.az.v,s.pl.fs.v,s.ft.v]::J/\aN 21 st.t [(1,aG aH e),(2,.ptrM d 0 0),(5,iv i)]) s.ft.l.length Ω ⟨0,[],Ω,Ω,rfl,rfl,by simp only[V0,Xa,Xe,af,eU]⟩ ?_;clear af;rintro jj ⟨t,aa⟩ KA ⟨i,J,hjj,hi,hno,ho,af⟩ bV cS dA;dsimp only at ho af;subst ho;simp only[V3]at af;by_cases h:i<s.ft.l.length;rotate_left
 ·simp only[V0,Xa,Xe,af,hlen,h];refine cS _ _ ?_;rw[gj Ω]at hno;simp only[V0,Xa,af,hno]
 have hx:s.ft.l[i]?=some s.ft.l[i]:=cK h;have hmem:=gU h;generalize s.ft.l[i]=x at hx hmem;have cc:=h1 x hmem e m Ω;simp only[Sv.c,Ft.c,zg]at cc;have kM:bM (s.ft.l.flatMap Ft.c) (i*5) 5=some [aG aH x.id,aG aH x.kind,aG aH x.cls,.str x.name.1,x.parts.v]:=(zd Ft.aZ 0 5 hx Ω).trans rfl;have hw:=zq i;cases q:gO nm s.pl x e
 ·simp only[V0,Xa,Xe,af,hlen,h,za s.ft h,kM,cc,q,hw];refine bV _ (s.ft.l.length-(i+1)) Ω ⟨i+1,_,Ω,Ω,?_,rfl,by simp only[V0,Xa,Xe,af]⟩;rw[zt hx,SR,hno,Xv,q];rfl
 ·have hu:(s.ft.l.any fun f=>gO nm s.pl f e)=true:=rR.2 ⟨x,hmem,q⟩;simp only[V0,Xa,Xe,af,hlen,h,za s.ft h,kM,cc,q];refine dA _ ?_;simp only[V0,Xa,af,hu]
def jZ:List Int:=[3,10,2,9,14,1,7]
def ry(nm:ByteArray->Int)(p:Pn)(fs:List Ft)(e:Int):Bool:=(fs.any fun f=>gO nm p f e)||(e==10&&!dP (fs.map Ft.id))
def oz(nm:ByteArray->Int)(p:Pn)(fs:List Ft):Int:=match jZ.find? (ry nm p fs)with
 |some e=>e
 |none=>bif ox fs then 13 else 0
end
def Iu(nm:ByteArray->Int)(z:Int)(s:Sv):Int:=bif z != 0 then z else bif decide ((128:Int)<(s.ft.l.length:Int))then 3 else oz nm s.pl s.ft.l
theorem L4{α:Type}{q:α->Bool}{l:List α}{i:Nat}{x:α}(hx:l[i]?=some x)(hq:q x=true)(hno:(l.take i).any q=false):l.find? q=some x:=by
 have hil:=(cU.1 hx).1;have hs:l=l.take i++x::l.drop (i+1):=by
  conv=>lhs;rw[←Fu i l]
  rw[HM hil,(cU.1 hx).2]
 rw [hs,zmn,XD.2 fun y hy=>by
  have:=qT.1 hno y hy;simpa using this]
 simp[hq]
section
variable {S:cZ}
theorem Hl(hS:bN S)(nm:ByteArray->Int)(s:Sv)(hv:bQ s.pl)(hl:s.ft.l.length<=1000000)(hfl:∀ f∈s.ft.l,f.parts.l.length<=1000000)(h7:∀ f∈s.ft.l,∃ N,aP S N 97 [.str f.name.1] (aG aH (nm f.name.1)))(z:Int)(h16:∃ N,aP S N 32 [.agg s.pl.c] (aG aH z)):∃ N,aP S N 8 [.agg s.c] (aG aH (Iu nm z s)):=by
 obtain⟨N0,h0⟩:=h16;obtain⟨N1,h1⟩:=Vt hS nm s hv hl hfl h7;obtain⟨N2,h2⟩:∃ N,s.ft.l.length<=128->aP S N 35 [.agg s.c] (.bool (ox s.ft.l)):=by
  by_cases h:s.ft.l.length<=128
  ·obtain⟨N,hN⟩:=Vs hS s Ω hfl;exact⟨N,fun _=>hN⟩
  ·exact⟨0,fun e=>absurd e h⟩
 refine⟨N0+N1+N2+s.ft.l.length+61,gv i8 hS (N0+N1+N2+s.ft.l.length+60) zn fun m hm d ah t af=>?_⟩;simp only[slotsOf,zb,zc,i8,Sv.c]at af;have c0:=h0 m Ω;have c1:=fun e d ah aK aa i=>h1 e m Ω d ah aK aa i;simp only[Pn.c,Sv.c]at c0 c1;have hlen:∀ d2 ah aK aa,jL d2 ah aK aa 1 s.ft.v=some (.p,aG aH (s.ft.l.length:Nat),aa):=fun d2 ah aK aa=>yp s.ft;unfold Iu;cases g0:z != 0;rotate_left
 ·simp only[i8,V0,Xa,Xb,Xe,af,c0,g0,bT]
 cases g1:decide ((128:Int)<(s.ft.l.length:Int));rotate_left
 ·simp only[i8,V0,Xa,Xb,Xe,af,c0,g0,hlen,eZ,g1,bT,bL]
 have qD:s.ft.l.length<=128:=by have:=of_decide_eq_false g1;omega
 have c2:=h2 qD m Ω;simp only[Sv.c]at c2;rw[bL,bL];simp only[i8,V0,Xa,Xb,Xe,af,c0,g0,hlen,eZ,g1];refine ze (fun jj st=>∃(i:Nat)(J:aU)(lv:IV),s.ft.l.length-i<=jj/\i<=s.ft.l.length/\cg aL 1 d 1 J lv ((s.ft.l.take i).map Ft.id)/\st.aa=aI [s.pl.ns.v,s.pl.az.v,s.pl.fs.v,s.ft.v]::J/\aN 65 st.t [(1,.ptrM d 0 0),(4,lv),(5,iv i)]) s.ft.l.length Ω ⟨0,_,.nilsl,Ω,Ω,.inl ⟨rfl,rfl⟩,rfl,by simp only[V0,Xa,Xe,af,eU]⟩ ?_;clear af;rintro jj ⟨t,aa⟩ KA ⟨i,J,lv,hjj,hi,hO,ho,af⟩ bV cS dA;dsimp only at ho af;subst ho;simp only[V3]at af;by_cases h:i<s.ft.l.length
 ·obtain⟨x,hx⟩:=gx (l:=s.ft.l) (i:=i) h;have kM:bM (s.ft.l.flatMap Ft.c) (i*5) 1=some [aG aH x.id]:=(zd Ft.aZ 0 1 hx Ω).trans rfl;have hw:=zq i;obtain⟨e,dR,J2,b9,dX⟩:=zM (Pre:=[aI [s.pl.ns.v,s.pl.az.v,s.pl.fs.v,s.ft.v]]) (n0:=J.length+1) (slot:=0) (k:=0) (ah:=ah) (R:=[.free]) zf hO (ys:=[x.id]) Ψ (by simp only[ig,k8,cu,dw];omega) (by simp;omega) rfl rfl;simp only[gM,gQ,fJ,lz,aL,zg,cu,dw,iL,fO]at b9;simp only[V0,Xa,Xe,af,hlen,h,za s.ft h,kM,rep,zh,zk,zo,zu,b9,hw];exact bV _ (s.ft.l.length-(i+1)) Ω ⟨i+1,J2,dR,Ω,Ω,by rw[zt hx,E6];exact dX,rfl,by simp only[V0,Xa,Xe,af]⟩
 simp only[V0,Xa,Xe,af,hlen,h];refine cS _ _ ?_;obtain rfl:i=s.ft.l.length:=Ω;rw[E7]at hO;have ecs:([aG aH 3,aG aH 10,aG aH 2,aG aH 9,aG aH 14,aG aH 1,aG aH 7]:List IV)=jZ.flatMap aL:=rfl;simp only[V0,Xa,Xb,Xd,af,rep];rw[ecs];refine ze (fun jj st=>∃(i:Nat)(J:aU),7-i<=jj/\i<=7/\((jZ.take i).any (ry nm s.pl s.ft.l))=false/\cg aL 1 d 1 J lv (s.ft.l.map Ft.id)/\st.aa=aI [s.pl.ns.v,s.pl.az.v,s.pl.fs.v,s.ft.v]::J/\aN 65 st.t [(1,.ptrM d 0 0),(4,lv),(6,.slC (jZ.flatMap aL) 7 1 true),(7,iv i)]) 7 Ω ⟨0,J,Ω,Ω,rfl,hO,rfl,by simp only[V0,Xa,Xe,af,eU]⟩ ?_;clear af hO;rintro jj ⟨t,aa⟩ KB ⟨i,J,hjj,hi,hno,hO,ho,af⟩ jo lX mE;dsimp only at ho af;subst ho;simp only[V3]at af;have DJ:∀ d2 ah aK aa,jL d2 ah aK aa 1 (.slC (jZ.flatMap aL) 7 1 true)=some (.p,aG aH ((7:Nat):Int),aa):=fun d2 ah aK aa=>rfl;by_cases h7':i<7;rotate_left
 ·have h7i:¬ ((i:Int)<((7:Nat):Int)):=Ω;simp only[V0,Xa,Xe,af,DJ,h7i];refine lX _ _ ?_;obtain rfl:i=7:=Ω;have hf:jZ.find? (ry nm s.pl s.ft.l)=none:=XD.2 fun y hy=>by have:=qT.1 hno y hy;simpa using this
  have hr:oz nm s.pl s.ft.l=bif ox s.ft.l then 13 else 0:=by unfold oz;rw[hf]
  cases q:ox s.ft.l
  ·rw[q]at hr;simp only[V0,Xa,Xe,af,c2,q,hr,bL]
  ·rw[q]at hr;simp only[V0,Xa,Xe,af,c2,q,hr,bT]
 have h7i:((i:Int)<((7:Nat):Int)):=Ω;have hel:i<jZ.length:=h7';obtain⟨e,hx⟩:=gx (l:=jZ) (i:=i) hel;have Ng:bM (jZ.flatMap aL) (i*1) 1=some [aG aH e]:=zd zf 0 1 hx Ω;have hie:∀ aa,dD aa 1 (.slC (jZ.flatMap aL) 7 1 true) (aG aH (i:Int))=some (.p,.ptrC (jZ.flatMap aL) (i*1),aa):=fun aa=>zA h7';have hw:=zq i;have U4:∀ (vis:List Nat) (x:aO) (R aa:aU) (id:Nat),aM aR S m d ah (b7 vis (J.length+1) (x::(J++R))) aa id 34 [lv]=some (.r,.bool (dP (s.ft.l.map Ft.id)),aa):=fun vis x R aa id=>EO hS _ (by rw [ig]; omega) (by rw [ig]; omega) (by
  rcases hO with⟨h1,rfl⟩|⟨b,hne,rfl,hb⟩
  ·rw[h1];exact .inl ⟨lP 1 aL,rfl,rfl⟩
  ·refine .inr ⟨d,_,_,_,Ω,rfl,?_⟩;show(if d=d then b7 vis (J.length+1) (x::(J++R))else ah d)[1+b]?=_
   rw[bt rfl];have h3:(x::J)[1+b]?=some (aI ((s.ft.l.map Ft.id).flatMap aL)):=by rw[qv,jP];exact hb
   exact Yt h3 vis R)
 have next:ry nm s.pl s.ft.l e=false->((jZ.take (i+1)).any (ry nm s.pl s.ft.l))=false:=fun hh=>by rw[zt hx,SR,hno,Xv,hh];rfl
 have hit:ry nm s.pl s.ft.l e=true->oz nm s.pl s.ft.l=e:=fun hh=>by unfold oz;rw[L4 hx hh hno]
 unfold ry at next hit
 cases q1:s.ft.l.any fun f=>gO nm s.pl f e;rotate_left
 ·rw[q1,iY]at hit;have hit:=hit rfl;simp only[V0,Xa,Xe,af,DJ,h7i,hie,Ng,c1,q1,Xb];refine mE _ ?_;simp only[V0,Xa,af,hit]
 cases q2:e==10
 ·rw[q1,q2,iS,ew]at next
  have next:=next rfl
  simp only[V0,Xa,Xe,af,DJ,h7i,hie,Ng,c1,q1,q2,Xb,hw];exact jo _ (7-(i+1)) Ω ⟨i+1,_,Ω,Ω,next,hO.more _,rfl,by simp only[V0,Xa,Xe,af]⟩
 cases q3:dP (s.ft.l.map Ft.id)
 ·rw[q1,q2,q3,iS,pX,BW]at hit;have hit:=hit rfl;simp only[V0,Xa,Xe,af,DJ,h7i,hie,Ng,c1,q1,q2,U4,q3,Xb];refine mE _ ?_;simp only[V0,Xa,af,hit]
 ·have next:=next (by rw[q1,q2,q3];rfl)
  simp only[V0,Xa,Xe,af,DJ,h7i,hie,Ng,c1,q1,q2,U4,q3,Xb,hw];exact jo _ (7-(i+1)) Ω ⟨i+1,_,Ω,Ω,next,hO.more _,rfl,by simp only[V0,Xa,Xe,af]⟩
end
theorem Z0(k:Int):bF k=0∨bF k=1∨bF k=2∨(bF k=3/\k≠0):=by
 unfold bF;cases h1:(k==1||k==2||k==8)
 ·rw[bL];cases h2:(k==3||k==4)
  ·rw[bL];cases h3:(k==5||k==6||k==7)
   ·exact .inl rfl
   ·refine .inr (.inr (.inr ⟨rfl,fun e=>?_⟩));subst e;revert h3;decide
  ·exact .inr (.inr (.inl rfl))
 ·exact .inr (.inl rfl)
theorem TN{p:Pn}{f:Ft}(h:bF f.kind≠0)(x:Int):qC p f x=No p (bF f.kind) x:=by
 unfold qC No;rcases Z0 f.kind with e|e|e|⟨e,_⟩
 ·exact absurd e h
 ·rw[e];rfl
 ·rw[e];rfl
 ·rw[e];rfl
theorem Fw{nm:ByteArray->Int}{p:Pn}{f:Ft}(h:bF f.kind≠0):gO nm p f 7=uw p f:=by have e:gO nm p f 7=!(f.parts.l.all fun x=>No p (bF f.kind) x):=rfl;rw[e,List.not_all_eq_any_not];unfold uw;exact yC fun x _=>by rw[TN h]
theorem K6(nm:ByteArray->Int)(p:Pn)(fs:List Ft):oz nm p fs=bif fs.any vq then 3 else bif ug fs then 10 else bif fs.any vp then 2 else bif fs.any qJ then 9 else bif fs.any (vo nm)then 14 else bif fs.any vn then 1 else bif fs.any (uw p)then 7 else bif ox fs then 13 else 0:=by
 have e3:ry nm p fs 3=fs.any vq:=by show((fs.any fun f=>gO nm p f 3)||false)=_;rw[M5];exact yC fun _ _=>rfl
 have e10:ry nm p fs 10=ug fs:=by show((fs.any fun f=>gO nm p f 10)||(true&&!dP (fs.map Ft.id)))=_;unfold ug;rw[pX,Bool.or_comm];rfl
 have e2:ry nm p fs 2=fs.any vp:=by show((fs.any fun f=>gO nm p f 2)||false)=_;rw[M5];exact yC fun _ _=>rfl
 have e9:ry nm p fs 9=fs.any qJ:=by show((fs.any fun f=>gO nm p f 9)||false)=_;rw[M5];exact yC fun _ _=>rfl
 have e14:ry nm p fs 14=fs.any (vo nm):=by show((fs.any fun f=>gO nm p f 14)||false)=_;rw[M5];exact yC fun _ _=>rfl
 have e1:ry nm p fs 1=fs.any vn:=by show((fs.any fun f=>gO nm p f 1)||false)=_;rw[M5];exact yC fun _ _=>rfl
 have e7:fs.any qJ=false->ry nm p fs 7=fs.any (uw p):=fun h4=>by
  show((fs.any fun f=>gO nm p f 7)||false)=_;rw[M5];exact yC fun f hf=>Fw fun e=>by have:=qT.1 h4 f hf;unfold qJ at this;rw[e]at this;simp at this
 unfold oz jZ;rw[Ca,e3];cases fs.any vq;rotate_left
 ·rfl
 rw[Ca,e10];cases ug fs;rotate_left
 ·rfl
 rw[Ca,e2];cases fs.any vp;rotate_left
 ·rfl
 rw[Ca,e9];cases h4:fs.any qJ;rotate_left
 ·rfl
 rw[Ca,e14];cases fs.any (vo nm);rotate_left
 ·rfl
 rw[Ca,e1];cases fs.any vn;rotate_left
 ·rfl
 rw[Ca,e7 h4];cases fs.any (uw p);rotate_left
 ·rfl
 rfl
theorem zfy{f g:Ft}(hf:bF f.kind≠0)(hg:bF g.kind≠0):j0 f g=true↔∃ k,k∈dI f/\k∈dI g:=by
 unfold j0 dI Je;have mem:∀(l:List Int)(z:Int)(k:Int×Int),k∈l.map (fun x=>(z,x))↔k.1=z/\k.2∈l:=fun l z k=>by
  rw[jA];constructor
  ·rintro⟨x,hx,rfl⟩;exact⟨rfl,hx⟩
  ·rintro⟨h1,h2⟩;exact⟨k.2,h2,by rw[←h1]⟩
 have any:(f.parts.l.any fun x=>g.parts.l.contains x)=true↔∃ x,x∈f.parts.l/\x∈g.parts.l:=by rw[rR];simp only[nM]
 rcases Z0 f.kind with e|e|e|⟨e,e'⟩
 ·exact absurd e hf
 ·rcases Z0 g.kind with d|d|d|⟨d,d'⟩
  ·exact absurd d hg
  ·rw[e,d];simp only[show((1:Int)==2)=false from rfl,show((1:Int) != 1)=false from rfl,show((1:Int)==3)=false from rfl,iS,ew,bL,mem,any];exact⟨fun⟨x,h1,h2⟩=>⟨(0,x),⟨rfl,h1⟩,rfl,h2⟩,fun⟨k,h1,h2⟩=>⟨k.2,h1.2,h2.2⟩⟩
  ·rw[e,d];simp
  ·rw[e,d];simp only[show((1:Int)==2)=false from rfl,show((1:Int) != 3)=true from rfl,show((1:Int)==3)=false from rfl,show((3:Int)==2)=false from rfl,show((3:Int)==3)=true from rfl,iS,iY,bT,bL,mem];exact⟨fun h=>(by cases h),fun⟨k,h1,h2⟩=>absurd (h2.1.symm.trans h1.1) d'⟩
 ·rw[e];simp
 ·rcases Z0 g.kind with d|d|d|⟨d,d'⟩
  ·exact absurd d hg
  ·rw[e,d];simp only[show((3:Int)==2)=false from rfl,show((3:Int) != 1)=true from rfl,show((1:Int)==3)=false from rfl,show((1:Int)==2)=false from rfl,show((3:Int)==3)=true from rfl,iS,iY,bT,bL,mem];exact⟨fun h=>(by cases h),fun⟨k,h1,h2⟩=>absurd (h1.1.symm.trans h2.1) e'⟩
  ·rw[e,d];simp
  ·rw[e,d];simp only[show((3:Int)==2)=false from rfl,show((3:Int) != 3)=false from rfl,show((3:Int)==3)=true from rfl,iS,pX,bT,bL,mem];cases hk:f.kind != g.kind
   ·have hk:f.kind=g.kind:=by simpa using hk
    rw[bL,any];exact⟨fun⟨x,h1,h2⟩=>⟨(f.kind,x),⟨rfl,h1⟩,hk,h2⟩,fun⟨k,h1,h2⟩=>⟨k.2,h1.2,h2.2⟩⟩
   ·have hk:f.kind≠g.kind:=by simpa using hk
    rw[bT];exact⟨fun h=>(by cases h),fun⟨k,h1,h2⟩=>absurd (h1.1.symm.trans h2.1) hk⟩
theorem Cj{fs:List Ft}:∀ i,kU fs i=true↔∃ a b x y,a<b/\b<i/\fs[a]?=some y/\fs[b]?=some x/\j0 x y=true
 |0=>⟨fun h=>by simp[kU]at h,fun⟨a,b,_,_,_,h,_⟩=>by omega⟩
 |i+1=>by
  unfold kU;rw[nu,Cj i];constructor
  ·rintro(⟨a,b,x,y,h1,h2,h3,h4,h5⟩|h)
   ·exact⟨a,b,x,y,h1,Ω,h3,h4,h5⟩
   ·cases hx:fs[i]? with
    |none=>rw[hx]at h;simp at h
    |some x =>
     rw[hx]at h
     obtain⟨y,hy,hc⟩:=rR.1 h
     obtain⟨a,ha⟩:=zmm.1 hy
     rw[Fq]at ha
     split at ha
     ·rename_i hai
      exact⟨a,i,x,y,hai,Ω,ha,hx,hc⟩
     ·cases ha
  ·rintro⟨a,b,x,y,h1,h2,h3,h4,h5⟩;by_cases hb:b<i
   ·exact .inl ⟨a,b,x,y,h1,hb,h3,h4,h5⟩
   ·right;obtain rfl:b=i:=Ω;rw[h4];exact rR.2 ⟨y,j5 (i:=a) (by rw[zlf h1];exact h3),h5⟩
theorem NK{fs:List Ft}(h2:ug fs=false)(h4:fs.any qJ=false):ox fs=QT fs:=by
 have hsh:∀ f∈fs,bF f.kind≠0:=fun f hf e=>by have:=qT.1 h4 f hf;unfold qJ at this;rw[e]at this;simp at this
 unfold ug at h2;rw[uQ]at h2;have ak:∀ f∈fs,(dI f).Nodup:=fun f hf=>by
  have h3:=qT.1 h2.2 f hf;have h3:dP f.parts.l=true:=by simpa using h3
  unfold dI;cases bF f.kind==2
  ·rw[bL,List.Nodup,qO];exact(y6.1 h3).imp fun{a b} aq e=>by rw[qN]at e;omega
  ·exact List.nodup_nil
 unfold QT;rw[nU,tB,vB];unfold ox;rw[Cj];constructor
 ·rintro⟨a,b,x,y,h1,_,h3,h5,h6⟩ hn;rw[List.Nodup,zla]at hn;obtain⟨k,k1,k2⟩:=(zfy (hsh x (j5 h5)) (hsh y (j5 h3))).1 h6;exact yk.1 hn.2 a b y x h1 h3 h5 k k2 k k1 rfl
 ·intro hn;refine Classical.byContradiction fun hno=>hn ?_;rw[List.Nodup,zla];refine⟨ak,yk.2 fun a b y x aq hy hx k hk k' hk' e=>hno ?_⟩;subst e;exact⟨a,b,x,y,aq,(cU.1 hx).1,hy,hx,(zfy (hsh x (j5 hx)) (hsh y (j5 hy))).2 ⟨k,hk',hk⟩⟩
theorem K5(nm:ByteArray->Int)(p:Pn)(fs:List Ft):(bif decide ((128:Int)<(fs.length:Int))then 3 else oz nm p fs)=sw nm p fs:=by
 rw[K6];unfold sw;cases h2:ug fs
 ·cases h4:fs.any qJ
  ·rw[NK h2 h4]
  ·rfl
 ·rfl
def iQ(p:Pn)(a:Ar):Int:=e8 p ((a.oc.l[0]?).getD 0)
def Wf(p:Pn)(a:Ar):Bool:=jS p { a with tw:=iQ p a }
theorem Zh{p:Pn}:∀{l:List Ar}{i:Nat}{fs r:List Int},0<i->(dS p i l fs=some r↔r=fs++l.map (iQ p)/\(∀ a∈l,iQ p a≠0/\Wf p a=true/\iQ p a ∉ fs)/\(l.map (iQ p)).Nodup)
 |[],i,fs,r,h=>by unfold dS;simp only[BY,iL,fZ,j4,false_implies,implies_true,List.nodup_nil,Nz];exact eq_comm
 |a::l,i,fs,r,h=>by
  obtain⟨j,rfl⟩:∃ j,i=j+1:=⟨i-1,Ω⟩;have hf:jY p (j+1) a=iQ p a:=rfl;rw[yW,hf,decide_eq_true h,pX,bt h];have ih:=@Zh p l (j+1+1) (fs++[iQ p a]) r Ω;show(if (iQ p a==0||fs.contains (iQ p a))=true then none else if Wf p a=true then dS p (j+1+1) l (fs++[iQ p a])else none)=some r↔_
  rw[nK,znr];by_cases c1:(iQ p a==0||fs.contains (iQ p a))=true
  ·rw[bt c1];constructor
   ·intro e;cases e
   ·rintro⟨_,h2,_⟩;obtain⟨d1,_,d3⟩:=h2 a (kB ..);rw[nu,n9,nM]at c1;rcases c1 with c1|c1
    ·exact absurd c1 d1
    ·exact absurd c1 d3
  ·rw[bC c1];rw[nu,n9,nM,not_or]at c1;by_cases c2:Wf p a=true
   ·rw[bt c2,ih];constructor
    ·rintro⟨rfl,h2,h3⟩;refine⟨Ψ,fun b hb=>?_,fun hm=>?_,h3⟩
     ·rcases fF.1 hb with rfl|hb
      ·exact⟨c1.1,c2,c1.2⟩
      ·obtain⟨d1,d2,d3⟩:=h2 b hb;exact⟨d1,d2,fun hm=>d3 (SA _ hm)⟩
     ·obtain⟨b,hb,e⟩:=jA.1 hm;exact(h2 b hb).2.2 (by rw[e];simp)
    ·rintro⟨rfl,h2,h3,h4⟩;refine⟨Ψ,fun b hb=>?_,h4⟩;obtain⟨d1,d2,d3⟩:=h2 b (nk _ hb);refine⟨d1,d2,fun hm=>?_⟩;rcases og.1 hm with hm|hm
     ·exact d3 hm
     ·exact h3 (jA.2 ⟨b,hb,qx.1 hm⟩)
   ·rw[bC c2];constructor
    ·intro e;cases e
    ·rintro⟨_,h2,_⟩;exact absurd (h2 a (kB ..)).2.1 c2
theorem GF{p:Pn}{a0:Ar}{As:List Ar}:nG p (a0::As)=true↔jS p a0=true/\(∀ a∈As,iQ p a≠0/\Wf p a=true)/\(As.map (iQ p)).Nodup/\B7 (As.map (iQ p))=p.fs.l:=by
 unfold nG;rw[yW];have hf:jY p 0 a0=a0.tw:=rfl;rw[hf];show fcB p (if (false&&_)=true then none else if jS p a0=true then dS p 1 As []else none)=true↔_
 rw[ew,bC Δ];by_cases c:jS p a0=true
 ·rw[bt c];cases hg:dS p 1 As []with
  |none =>
   constructor
   ·intro e;cases e
   ·rintro⟨_,h2,h3,h4⟩
    have:=(Zh (p:=p) (l:=As) (i:=1) (fs:=[]) (r:=As.map (iQ p)) Ω).2 ⟨rfl,fun a ha=>⟨(h2 a ha).1,(h2 a ha).2,Ψ⟩,h3⟩
    rw[hg]at this
    cases this
  |some r =>
   obtain⟨e,h2,h3⟩:=(Zh (p:=p) Ω).1 hg
   rw[gM]at e
   subst e
   show decide (B7 (As.map (iQ p))=p.fs.l)=true↔_
   rw[jk]
   exact⟨fun h4=>⟨c,fun a ha=>⟨(h2 a ha).1,(h2 a ha).2.1⟩,h3,h4⟩,fun h=>h.2.2.2⟩
 ·rw[bC c];constructor
  ·intro e;cases e
  ·exact fun h=>absurd h.1 c
def qi(p:Pn)(c:List Int):Int:=e8 p ((c[0]?).getD 0)
def r8(p:Pn)(q:Pt):Int:=match gp p (bz p) q with
 |0=>0
 |k+1=>qi p (((bz p)[k]?).getD [])
structure mI(p:Pn):Prop where
 outer:∀ c∈bz p,qi p c≠0/\cE p c (qi p c)=true
 GP:((bz p).map (qi p)).Nodup
 WW:B7 ((bz p).map (qi p))=p.fs.l
 inner:∀ c∈aW p,gq p c<=0->cE p c (r8 p (startP p c))=true
theorem It(p:Pn)(os:List (List Int))(q:Pt):gp p os q<=os.length:=by have:=RU p os q;unfold gp;omega
theorem Pz{p:Pn}{a:Ar}{i:Nat}{f:Int}(h:a.ic.l.map (·.l)=(aW p).filter fun c=>decide (gq p c<=0)&&gp p (bz p) (startP p c)==i):(a.ic.l.all fun c=>cE p c.l f)=true↔∀ c∈aW p,gq p c<=0->gp p (bz p) (startP p c)=i->cE p c f=true:=by
 rw[ot];constructor
 ·intro hc c hm h1 h2;have:c∈a.ic.l.map (·.l):=by rw[h];exact tu.2 ⟨hm,by rw[decide_eq_true h1,h2];simp⟩
  obtain⟨x,hx,rfl⟩:=jA.1 this;exact hc x hx
 ·intro hc x hx;have:x.l∈a.ic.l.map (·.l):=HJ hx;rw[h]at this;obtain⟨h1,h2⟩:=tu.1 this;rw[gJ,jk,n9]at h2;exact hc _ h1 h2.1 h2.2
theorem Ed{p:Pn}{As:List Ar}(hR:uB p As):nG p As=true↔mI p:=by
 cases As with
 |nil=>have:=hR.len;simp at this
 |cons a0 l =>
  have hlen:l.length=(bz p).length:=by have:=hR.len;rw[cu]at this;omega
  have h0:=hR.el 0 a0 rfl
  have hel:∀ k a,l[k]?=some a->a.oc.l=((bz p)[k]?).getD []/\a.ic.l.map (·.l)=((aW p).filter fun c=>decide (gq p c<=0)&&gp p (bz p) (startP p c)==k+1):=fun k a ha=>by obtain⟨_,e2,e3,_⟩:=hR.el (k+1) a (by rw[jP];exact ha);exact⟨e2,e3⟩
  have fU:∀ k,k<l.length->∃ a c,l[k]?=some a/\(bz p)[k]?=some c/\a.oc.l=c:=fun k hk=>by have h1:=cK hk;have h2:(bz p)[k]?=some (bz p)[k]:=cK Ω;refine⟨_,_,h1,h2,?_⟩;rw[(hel k _ h1).1,h2];rfl
  have hfo:∀ a:Ar,iQ p a=qi p a.oc.l:=fun _=>rfl
  have hmap:l.map (iQ p)=(bz p).map (qi p):=by
   refine E8 fun k=>?_;rw[k9,k9];by_cases hk:k<l.length
   ·obtain⟨a,c,h1,h2,h3⟩:=fU k hk;rw[h1,h2,gH,gH,hfo,h3]
   ·rw[BZ Ω,BZ Ω];rfl
  rw[GF,hmap]
  have PY:jS p a0=true↔∀ c∈aW p,gq p c<=0->gp p (bz p) (startP p c)=0->cE p c 0=true:=by unfold jS;rw[h0.1,h0.2.1];show(true&&_)=true↔_;rw[pX];exact Pz h0.2.2.1
  have Gp:∀ k a c,l[k]?=some a->(bz p)[k]?=some c->a.oc.l=c->(Wf p a=true↔cE p c (qi p c)=true/\∀ d∈aW p,gq p d<=0->gp p (bz p) (startP p d)=k+1->cE p d (qi p c)=true):=fun k a c h1 h2 h3=>by unfold Wf jS;rw[gJ];show cE p a.oc.l (iQ p a)=true/\_↔_;rw[Pz (a:={ a with tw:=iQ p a }) (hel k a h1).2];show cE p a.oc.l (iQ p a)=true/\(∀ d∈aW p,gq p d<=0->gp p (bz p) (startP p d)=k+1->cE p d (iQ p a)=true)↔_;rw[hfo,h3]
  constructor
  ·rintro⟨g1,g2,g3,g4⟩
   refine⟨fun c hc=>?_,g3,g4,fun c hc ht=>?_⟩
   ·obtain⟨k,hk⟩:=pY hc
    obtain⟨a,c',e1,e2,e3⟩:=fU k (by rw[hlen];exact(cU.1 hk).1)
    rw[hk]at e2
    cases e2
    obtain⟨d1,d2⟩:=g2 a (j5 e1)
    rw[hfo,e3]at d1
    exact⟨d1,((Gp k a c e1 hk e3).1 d2).1⟩
   ·have hle:=It p (bz p) (startP p c)
    unfold r8
    cases hr:gp p (bz p) (startP p c)with
    |zero=>exact PY.1 g1 c hc ht hr
    |succ k =>
     obtain⟨a,c',e1,e2,e3⟩:=fU k Ω
     obtain⟨_,d2⟩:=g2 a (j5 e1)
     show cE p c (qi p (((bz p)[k]?).getD []))=true
     rw[e2]
     exact((Gp k a c' e1 e2 e3).1 d2).2 c hc ht hr
  ·intro hs
   refine⟨PY.2 fun c hc ht hr=>?_,fun a ha=>?_,hs.GP,hs.WW⟩
   ·have:=hs.inner c hc ht
    unfold r8 at this
    rw[hr]at this
    exact this
   ·obtain⟨k,hk⟩:=pY ha
    obtain⟨a',c,e1,e2,e3⟩:=fU k (cU.1 hk).1
    rw[hk]at e1
    cases e1
    obtain⟨d1,d2⟩:=hs.outer c (j5 e2)
    refine⟨by rw[hfo,e3];exact d1,(Gp k a c hk e2 e3).2 ⟨d2,fun d hd ht hr=>?_⟩⟩
    have:=hs.inner d hd ht
    unfold r8 at this
    rw[hr]at this
    have this:cE p d (qi p (((bz p)[k]?).getD []))=true:=this
    rw[e2]at this
    exact this
theorem EW.eq{p:Pn}{z:Int}(h:EW p z)(hE:jf p=0):(z=0/\mI p)∨(z=12/\¬ mI p):=by
 obtain⟨As,hR,hz⟩:=h.good hE;have hs:=Ed hR;cases g:nG p As
 ·rw[g]at hz hs;exact .inr ⟨hz,fun e=>by have:=hs.2 e;cases this⟩
 ·rw[g]at hz hs;exact .inl ⟨hz,hs.1 rfl⟩
structure Nv(f:Int->Int)(D:List Int)(z:Int)(l:List Int):Prop where
 nodup:l.Nodup
 sub:∀ x∈l,x∈D
 head:l[0]?=some z
 step:∀ i x,l[i]?=some x->i+1<l.length->l[i+1]?=some (f x)
theorem Nv.pos{f:Int->Int}{D:List Int}{z:Int}{l:List Int}(h:Nv f D z l):0<l.length:=(cU.1 h.head).1
theorem Nv.last{f:Int->Int}{D:List Int}{z:Int}{l:List Int}(h:Nv f D z l):l[l.length-1]?=some (fc l):=by have:=h.pos;unfold fc;rw[cK Ω];rfl
theorem Wd{f:Int->Int}{D:List Int}(hD:∀ x∈D,f x∈D)(inj:∀ x∈D,∀ y∈D,f x=f y->x=y){z:Int}:∀(k:Nat)(l:List Int),Nv f D z l->D.length<k+l.length->Nv f D z (jU f z k l)/\f (fc (jU f z k l))=z
 |0,l,h,hk=>by have:=h.nodup.length_le_of_subset fun x hx=>h.sub x hx;omega
 |k+1,l,h,hk=>by
  unfold jU;have hpos:=h.pos;have qn:=h.last;by_cases hz:(f (fc l)==z)=true
  ·rw[bt hz];exact⟨h,eq_of_beq hz⟩
  ·rw[bC hz];have hz:f (fc l)≠z:=fun e=>hz (by rw[e];simp);have hmem:fc l∈D:=h.sub _ (j5 qn);have hnew:f (fc l) ∉ l:=fun hm=>by
    obtain⟨i,hi⟩:=pY hm;rcases i with -|i
    ·rw[h.head]at hi;exact hz (kT hi).symm
    ·have hil:=(cU.1 hi).1;have hx:l[i]?=some l[i]:=cK Ω;have h2:=h.step i _ hx hil;rw[hi]at h2;have e:=inj _ hmem _ (h.sub _ (gU Ω)) (kT h2);have e2:l[l.length-1]?=l[i]?:=by rw[qn,hx,e]
     rw[cK (show l.length-1<l.length by omega),hx,fZ]at e2;have:=(M1 h.nodup).1 e2;omega
   refine Wd hD inj k _ ⟨?_,?_,?_,?_⟩ (by rw[eR,cu,dw];omega)
   ·rw[M3];refine⟨h.nodup,Ψ,fun a ha b hb e=>?_⟩;rw[qx]at hb;subst hb;rw[e]at ha;exact hnew ha
   ·intro x hx;rcases og.1 hx with hx|hx
    ·exact h.sub x hx
    ·rw[qx.1 hx];exact hD _ hmem
   ·rw[gT hpos];exact h.head
   ·intro i x hx hi;rw[eR,cu,dw]at hi;by_cases hil:i+1<l.length
    ·rw[gT hil];rw[gT Ω]at hx;exact h.step i x hx hil
    ·have e:i=l.length-1:=Ω;rw[gT Ω,e,qn]at hx;cases hx;rw[jd Ω,show i+1-l.length=0 by omega];rfl
theorem Nv.closed{f:Int->Int}{D:List Int}(inj:∀ x∈D,∀ y∈D,f x=f y->x=y){z:Int}{c:List Int}(h:Nv f D z c)(hz:f (fc c)=z){d:Int}(hd:d∈D):f d∈c↔d∈c:=by
 have hpos:=h.pos;have qn:=h.last;constructor
 ·intro hm;obtain⟨i,hi⟩:=pY hm;rcases i with -|i
  ·rw[h.head]at hi;have e:=inj _ hd _ (h.sub _ (j5 qn)) ((kT hi).symm.trans hz.symm);rw[e];exact j5 qn
  ·have hil:=(cU.1 hi).1;have hx:c[i]?=some c[i]:=cK Ω;have h2:=h.step i _ hx hil;rw[hi]at h2;have e:=inj _ hd _ (h.sub _ (gU Ω)) (kT h2);rw[e];exact gU _
 ·intro hm;obtain⟨i,hi⟩:=pY hm;by_cases hl:i+1<c.length
  ·exact j5 (h.step i d hi hl)
  ·have hil:=(cU.1 hi).1;have e:i=c.length-1:=Ω;rw[e,qn]at hi;cases hi;rw[hz];exact j5 h.head
theorem VG{l:List Int}(hn:l.Nodup){u v w:Int}(h1:uN l u v)(h2:uN l u w):v=w:=by
 rcases h1 with⟨A,B,e⟩|⟨B,e,h1⟩<;>rcases h2 with⟨A',B',e'⟩|⟨B',e',h2⟩
 ·have i1:l[A.length]?=some u:=by rw[e];simp
  have i2:l[A'.length]?=some u:=by rw[e'];simp
  have j1:l[A.length+1]?=some v:=by rw[e,jd Ω,show A.length+1-A.length=1 by omega];rfl
  have j2:l[A'.length+1]?=some w:=by rw[e',jd Ω,show A'.length+1-A'.length=1 by omega];rfl
  obtain⟨b1,b2⟩:=cU.1 i1;obtain⟨c1,c2⟩:=cU.1 i2;have:=(M1 hn).1 (b2.trans c2.symm);rw[this,j2]at j1;exact(kT j1).symm
 ·exfalso;have i1:l[A.length]?=some u:=by rw[e];simp
  rw[zku]at h2;obtain⟨b1,b2⟩:=cU.1 i1;obtain⟨c1,c2⟩:=cU.1 h2;have h3:=(M1 hn).1 (b2.trans c2.symm);have:l.length=A.length+(B.length+1+1):=by rw[e];simp
  omega
 ·exfalso;have i1:l[A'.length]?=some u:=by rw[e'];simp
  rw[zku]at h1;obtain⟨b1,b2⟩:=cU.1 i1;obtain⟨c1,c2⟩:=cU.1 h1;have h3:=(M1 hn).1 (b2.trans c2.symm);have:l.length=A'.length+(B'.length+1+1):=by rw[e'];simp
  omega
 ·rw[e]at e';exact(znk e').1
section
variable {p:Pn} (h:aV p)
include h
theorem aV.tN:∀ x∈aY p,∀ y∈aY p,iN p x=iN p y->x=y:=fun x hx y hy e=>by
 obtain⟨_,nx⟩:=h.fT (h.fk.1 hx);obtain⟨_,ny⟩:=h.fT (h.fk.1 hy);obtain⟨a,ha,ea,ma⟩:=h.node nx;obtain⟨b,hb,eb,mb⟩:=h.node ny;obtain⟨u,hu⟩:=Hw ma;obtain⟨v,hv⟩:=Hw mb;have fu:=h.next ha hu;have fv:=h.next hb hv;rw[tA]at fu fv;have huv:u=v:=by rw[←fu,←fv,e]
 subst huv;have su:=(h.fm ha hu.mem.1).2;have sv:=(h.fm hb hv.mem.1).2;have aq:a=b:=ZN h.nice.Wg ha hb (zbz h.pts ha hb (by rw[←su,←sv]) (by rw[←su,←sv]));subst aq;have:=VG ((h.around ha).1.nodup_iff.2 h.pJ) hu hv;omega
theorem aV.mm{z:Int}(hz:z∈aY p):Nv (iN p) (aY p) z (bZ (bS p) (bW p) z)/\iN p (fc (bZ (bS p) (bW p) z))=z:=by
 have hsub:∀ d∈aY p,iN p d∈aY p:=fun d hd=>h.fk.2 (h.pS (h.fk.1 hd)).1;have ak:(aY p).length<=(bS p).length:=by
  have hn:(aY p).Nodup:=by
   unfold aY;have hp:=h.nice.Nr;rw[qO]at hp;rw[M3];refine⟨?_,?_,fun a ha b hb e=>?_⟩
   ·rw[List.Nodup,qO,zmk];refine hp.imp_of_mem fun{a b} ha hb aq e=>?_;rw[h.ng ha,h.ng hb]at e;omega
   ·rw[List.Nodup,qO];exact hp.imp fun{a b} aq e=>by omega
   ·obtain⟨x,hx,rfl⟩:=jA.1 ha;obtain⟨y,hy,rfl⟩:=jA.1 hb;rw[Sw]at hx;rw[h.ng hx]at e;have i1:=h.pid x hx;have i2:=h.pid y hy;omega
  refine hn.length_le_of_subset fun d hd=>?_;obtain⟨e,hd2⟩:=h.fT (h.fk.1 hd);obtain⟨e2,_⟩:=h.fT hd2;obtain⟨x,hx,_,hm⟩:=h.node hd2;unfold bS;refine qS.2 ⟨x,hx,(CH _).mem_iff.2 (jA.2 ⟨-d,hm,?_⟩)⟩;rw[e2,tA]
 refine Wd hsub h.tN (bS p).length [z] ⟨Ψ,fun x hx=>by rw[qx.1 hx];exact hz,rfl,fun i x hx hi=>by simp at hi⟩ ?_;rw[cu,dw];omega
theorem aV.rH{z d:Int}(hz:z∈aY p)(hd:d∈aY p):iN p d∈bZ (bS p) (bW p) z↔d∈bZ (bS p) (bW p) z:=by obtain⟨h1,h2⟩:=h.mm hz;exact h1.closed h.tN h2 hd
end
theorem aV.EG{p:Pn}(h:aV p){x:Nd}(hx:x∈p.ns.l){l:List Int}(hp:l.Perm (bB p x.id))(hs:l.Pairwise fun a b=>lss x.at' (h.bp.sc a) (h.bp.sc b)=true):l=bD p x.id :=
 zl3 (fun _ _ _ _ h1 h2=>(Zw h1 h2).elim) hs (h.around hx).2 (hp.trans (h.around hx).1.symm)
section
variable {p:Pn} (h:aV p)
include h
omit h in
theorem aV.kJ{c:List Int}(hc:c∈aW p):∃ z∈aY p,c=bZ (bS p) (bW p) z:=by
 unfold aW at hc;rcases Y9 hc with hc|hc
 ·simp at hc
 ·exact hc
theorem aV.qR{c:List Int}(hc:c∈aW p){PI:Int}(bK:0<PI)(hd:∀ i,((h.bp.drawn.B i).h-(h.bp.drawn.A i).h)∣PI):(h.bp.drawn.bn bK hd).bk.M0 fun x=>c.contains (h.bp.bE x):=by obtain⟨z,hz,rfl⟩:=aV.kJ hc;refine h.bp.qR bK hd h.turns (c:=fun d=>(bZ (bS p) (bW p) z).contains d) fun d hdd=>?_;rw[nU,nM,nM];exact h.rH hz (h.fk.2 hdd)
end
end
section
variable {S:Type} {T:cI S}
def cI.part(T:cI S)(s0:S)(s:S):Prop:=∀ F:S->Int,(∀ m s t,(s∈T.U m∨s∈T.D m)->(t∈T.U m∨t∈T.D m)->F s=F t)->F s=F s0
theorem Da(s0:S):T.Joined (T.part s0):=fun F hF s t hs ht=>(hs F hF).trans (ht F hF).symm
theorem zaa(s0:S):T.part s0 s0:=fun _ _=>rfl
theorem C9{s0:S}{m:Int}{s t:S}(hs:s∈T.U m∨s∈T.D m)(ht:t∈T.U m∨t∈T.D m)(h:T.part s0 s):T.part s0 t:=fun F hF=>(hF m t s ht hs).trans (h F hF)
theorem zc0{s0 s:S}(h:T.part s0 s):T.part s s0:=fun F hF=>(h F hF).symm
theorem y7{s0 s t:S}(h:T.part s0 s)(h2:T.part s t):T.part s0 t:=fun F hF=>(h2 F hF).trans (h F hF)
theorem zb3{m:Int}{x:Dt S}(h:x∈T.ring m):x.s∈T.U m∨x.s∈T.D m:=by
 unfold cI.ring at h;rcases og.1 h with h|h
 ·obtain⟨s,hs,rfl⟩:=jA.1 h;exact .inl (Sw.1 hs)
 ·obtain⟨s,hs,rfl⟩:=jA.1 h;exact .inr hs
end
section
variable (N:Net) {PI:Int} (bK:0<PI) (hd:∀ i,((N.drawn.B i).h-(N.drawn.A i).h)∣PI)
theorem Net.IS{s0:Ix N.E.length}{x y:Dt (Ix N.E.length)}(e:N.drawn.gP x=N.drawn.gP y)(h:(N.drawn.bn bK hd).bk.part s0 x.s):(N.drawn.bn bK hd).bk.part s0 y.s :=
 C9 (zb3 ((N.drawn.jJ bK hd).2 rfl)) (zb3 ((N.drawn.jJ bK hd).2 (by rw[e]))) h
theorem Net.OZ{s0:Ix N.E.length}{a:Int}{x:Dt (Ix N.E.length)}{k:Nat}(hx:N.E[x.s]=(a,k))(h:(N.drawn.bn bK hd).bk.part s0 x.s){y:Dt (Ix N.E.length)}(hy:N.E[y.s]=(a,k+1)):(N.drawn.bn bK hd).bk.part s0 y.s:=by
 have mx:(a,k)∈N.E:=by rw[←hx];exact gU _
 have my:(a,k+1)∈N.E:=by rw[←hy];exact gU _
 obtain⟨u,u1,u2⟩:=N.ex mx false;obtain⟨v,v1,v2⟩:=N.ex my true;have rQ:u.s=x.s:=by
  have:N.E[u.s]=N.E[x.s]:=by rw[u1,hx]
  exact Fin.ext ((M1 N.nodup).1 this)
 have pT:v.s=y.s:=by
  have:N.E[v.s]=N.E[y.s]:=by rw[v1,hy]
  exact Fin.ext ((M1 N.nodup).1 this)
 rw[←pT];refine N.IS bK hd (x:=u) (y:=v) ?_ (by rw[rQ];exact h);rw[(N.kj u2).1,(N.j9 v2).1,u1,v1]
end
theorem Net.rG(N:Net)(x:Dt (Ix N.E.length)):N.E[x.s].1=N.bE x∨N.E[x.s].1=- N.bE x:=by
 unfold Net.bE;cases N.fwd x
 ·right;simp
 ·left;rfl
section
variable (N:Net) {PI:Int} (bK:0<PI) (hd:∀ i,((N.drawn.B i).h-(N.drawn.A i).h)∣PI)
theorem Net.gZ{z:Int}(hz:N.eY z):∃ x:Dt (Ix N.E.length),N.bE x=z/\N.drawn.gP x=N.sp z:=by
 rcases hz with hz|hz
 ·have hp:=(N.mem _ _ hz).1;obtain⟨x,x1,x2⟩:=N.ex hz true;refine⟨x,?_,?_⟩
  ·unfold Net.bE;rw[x2,bt rfl,x1]
  ·unfold Net.sp;rw[bt hp,(N.j9 x2).1,x1]
 ·have hp:=(N.mem _ _ hz).1;have hl:=(N.mem _ _ hz).2;obtain⟨x,x1,x2⟩:=N.ex (N.whole _ _ (N.len (-z)-1) hz Ω) false;refine⟨x,?_,?_⟩
  ·unfold Net.bE;rw[x2,bC Δ,x1];simp only[tA]
  ·unfold Net.sp;rw[bC Ω,(N.kj x2).1,x1];simp only;rw[show N.len (-z)-1+1=N.len (-z) by omega]
theorem Net.uy{a:Int}{x:Dt (Ix N.E.length)}(hx:N.E[x.s]=(a,0)):∀(k:Nat)(y:Dt (Ix N.E.length)),N.E[y.s]=(a,k)->(N.drawn.bn bK hd).bk.part x.s y.s
 |0,y,hy=>by have:x.s=y.s:=Fin.ext ((M1 N.nodup).1 (hx.trans hy.symm));rw[this];exact zaa _
 |k+1,y,hy=>by
  have my:(a,k+1)∈N.E:=by rw[←hy];exact gU _
  have mk:(a,k)∈N.E:=N.whole a (k+1) k my (by have:=(N.mem _ _ my).2;omega);obtain⟨u,u1,_⟩:=N.ex mk true;exact N.OZ bK hd u1 (Net.uy hx k u u1) hy
theorem Net.RB{s0:Ix N.E.length}{x y:Dt (Ix N.E.length)}(e:N.E[x.s].1=N.E[y.s].1)(h:(N.drawn.bn bK hd).bk.part s0 x.s):(N.drawn.bn bK hd).bk.part s0 y.s:=by obtain⟨u,u1,_⟩:=N.ex (N.first (N.get_mem x.s)) true;have p1:=N.uy bK hd u1 N.E[x.s].2 x rfl;have p2:=N.uy bK hd u1 N.E[y.s].2 y (by rw[e]);exact y7 h (y7 (zc0 p1) p2)
theorem Net.pW{s0:Ix N.E.length}{x y:Dt (Ix N.E.length)}(e:N.bE x=N.bE y∨N.bE x=- N.bE y)(h:(N.drawn.bn bK hd).bk.part s0 x.s):(N.drawn.bn bK hd).bk.part s0 y.s:=by refine N.RB bK hd ?_ h;have p1:=(N.mem _ _ (N.get_mem x.s)).1;have p2:=(N.mem _ _ (N.get_mem y.s)).1;rcases N.rG x with a|a<;>rcases N.rG y with b|b<;>rcases e with e|e<;>omega
end
section
variable {p:Pn} (h:aV p) {PI:Int} (bK:0<PI) (hd:∀ i,((h.bp.drawn.B i).h-(h.bp.drawn.A i).h)∣PI)
theorem aV.LB{s0:Ix h.bp.E.length}{z:Int}(hz:h.bp.eY z){x y:Dt (Ix h.bp.E.length)}(hx:h.bp.bE x=z)(hy:h.bp.bE y=iN p z)(hp:(h.bp.drawn.bn bK hd).bk.part s0 x.s):(h.bp.drawn.bn bK hd).bk.part s0 y.s:=by obtain⟨n1,n2⟩:=h.pS hz;obtain⟨u,u1,u2⟩:=h.bp.gZ (h.fT hz).2;obtain⟨v,v1,v2⟩:=h.bp.gZ n1;have pu:=h.bp.pW bK hd (x:=x) (y:=u) (.inr (by rw[hx,u1,tA])) hp;have pv:=h.bp.IS bK hd (x:=u) (y:=v) (by rw[u2,v2,n2]) pu;exact h.bp.pW bK hd (x:=v) (y:=y) (.inl (by rw[v1,hy])) pv
theorem aV.GW{z:Int}(hz:z∈aY p){x0:Dt (Ix h.bp.E.length)}(h0:h.bp.bE x0=z):∀ x:Dt (Ix h.bp.E.length),h.bp.bE x∈bZ (bS p) (bW p) z->(h.bp.drawn.bn bK hd).bk.part x0.s x.s:=fun x hx=>by
 obtain⟨o,_⟩:=h.mm hz;have key:∀(i:Nat)(d:Int),(bZ (bS p) (bW p) z)[i]?=some d->∀ y:Dt (Ix h.bp.E.length),h.bp.bE y=d->(h.bp.drawn.bn bK hd).bk.part x0.s y.s:=fun i=>by
  induction i with
  |zero =>
   intro d hdd y hy
   rw[o.head]at hdd
   cases hdd
   exact h.bp.pW bK hd (x:=x0) (y:=y) (.inl (by rw[h0,hy])) (zaa _)
  |succ i ih =>
   intro d hdd y hy
   have hl:=(cU.1 hdd).1
   have Wq:(bZ (bS p) (bW p) z)[i]?=some (bZ (bS p) (bW p) z)[i]:=cK Ω
   have hst:=o.step i _ Wq hl
   rw[hdd]at hst
   have hdi:=h.fk.1 (o.sub _ (gU (show i<(bZ (bS p) (bW p) z).length by omega)))
   obtain⟨w,w1,_⟩:=h.bp.gZ hdi
   exact h.LB bK hd hdi w1 (by rw[hy];exact kT hst) (ih _ Wq w w1)
 obtain⟨i,hi⟩:=pY hx;exact key i _ hi x rfl
theorem aV.of{z:Int}(hz:z∈aY p)(hc:bZ (bS p) (bW p) z∈aW p){x0:Dt (Ix h.bp.E.length)}(h0:h.bp.bE x0=z):(h.bp.drawn.bn bK hd).bk.Of ((h.bp.drawn.bn bK hd).bk.part x0.s) (fun x=>(bZ (bS p) (bW p) z).contains (h.bp.bE x)) :=
 ⟨Da _,fun x hx=>h.GW bK hd hz h0 x (nM.1 hx),h.qR hc bK hd⟩
end
section
variable {p:Pn} (h:aV p)
include h
theorem aV.w8{z w d:Int}(hz:z∈aY p)(hw:w∈aY p)(h1:d∈bZ (bS p) (bW p) z)(h2:d∈bZ (bS p) (bW p) w):∀ x∈bZ (bS p) (bW p) w,x∈bZ (bS p) (bW p) z:=fun x hx=>by
 obtain⟨o,_⟩:=h.mm hw;have key:∀(i:Nat)(u v:Int),(bZ (bS p) (bW p) w)[0]?=some u->(bZ (bS p) (bW p) w)[i]?=some v->(u∈bZ (bS p) (bW p) z↔v∈bZ (bS p) (bW p) z):=fun i=>by
  induction i with
  |zero =>
   intro u v hu hv
   rw[hu]at hv
   cases hv
   exact Iff.rfl
  |succ i ih =>
   intro u v hu hv
   have hl:=(cU.1 hv).1
   have Wq:(bZ (bS p) (bW p) w)[i]?=some (bZ (bS p) (bW p) w)[i]:=cK Ω
   have hst:=o.step i _ Wq hl
   rw[hv]at hst
   rw[kT hst,h.rH hz (o.sub _ (j5 Wq))]
   exact ih u _ hu Wq
 obtain⟨i,hi⟩:=pY h2;obtain⟨j,hj⟩:=pY hx;exact(key j _ _ o.head hj).1 ((key i _ _ o.head hi).2 h1)
theorem aV.uj{z w d:Int}(hz:z∈aY p)(hw:w∈aY p)(h1:d∈bZ (bS p) (bW p) z)(h2:d∈bZ (bS p) (bW p) w)(x:Int):x∈bZ (bS p) (bW p) z↔x∈bZ (bS p) (bW p) w :=
 ⟨h.w8 hw hz h2 h1 x,h.w8 hz hw h1 h2 x⟩
end
section
open Go Go.RowKit
section
variable {α β:Type}
theorem zd6{f:α->Int}{l r:List α}(h:l.Perm r):sm f l=sm f r:=by
 induction h with
 |nil=>rfl
 |cons x _ ih=>simp only[sm,ih]
 |swap x y l=>simp only[sm];omega
 |trans _ _ h1 h2=>exact h1.trans h2
theorem zab{f:α->Int}{q:α->Bool}:∀{l:List α},sm f (l.filter q)=sm (fun x=>b2 (q x)*f x) l
 |[]=>rfl
 |x::l=>by
  have ih:=zab (f:=f) (q:=q) (l:=l);rw[BX];cases h:q x
  ·rw[bC Δ];simp only[sm,h,ih,show b2 false=0 from rfl,M4,Int.zero_add]
  ·rw[bt rfl];simp only[sm,h,ih,show b2 true=1 from rfl,Int.one_mul]
theorem Ib{f:α->β->Int}:∀{l:List α}{r:List β},sm (fun a=>sm (f a) r) l=sm (fun b=>sm (fun a=>f a b) l) r
 |[],r=>(ZX fun _ _=>rfl).symm
 |x::l,r=>by have ih:=Ib (f:=f) (l:=l) (r:=r);simp only[sm,ih];exact xU.symm
theorem zfz{f:β->Int}{g:α->List β}:∀{l:List α},sm f (l.flatMap g)=sm (fun a=>sm f (g a)) l
 |[]=>rfl
 |x::l=>by rw[fJ,zC,zfz (l:=l)];rfl
theorem YA{f:α->Int}{k:Int}:∀{l:List α},sm (fun x=>k*f x) l=k*sm f l
 |[]=>(VJ k).symm
 |x::l=>by have ih:=YA (f:=f) (k:=k) (l:=l);simp only[sm,ih,Int.mul_add]
theorem ack{g:α->Int}(l:List α):sm (fun i:Ix l.length=>g l[i]) (List.finRange l.length)=sm g l:=by
 have e:(List.finRange l.length).map (fun i=>l[i])=l:=List.ext_getElem Ψ fun i h1 h2=>by simp
 conv=>rhs;rw[←e]
 rw[Zn]
theorem zf0{f:α->Int}{B:Int}:∀{l:List α},(∀ x∈l,-B<=f x/\f x<=B)->-(B*l.length)<=sm f l/\sm f l<=B*l.length
 |[],_=>by simp[sm]
 |x::l,h=>by have ih:=zf0 (f:=f) (B:=B) (l:=l) fun y hy=>h y (nk _ hy);have hx:=h x (kB ..);simp only[sm,cu,Int.natCast_add,Xx,Int.mul_add,Int.mul_one];omega
end
section
variable {p:Pn} (h:aV p)
include h
theorem aV.Ia(g:Int×Nat->Int):sm (fun i:Ix h.bp.E.length=>g h.bp.E[i]) (List.finRange h.bp.E.length)=sm (fun a=>sm (fun k=>g (a.id,k)) (List.range ((bu p a).length-1))) p.az.l:=by rw[ack (g:=g)];show sm g ((eM p).map fun s=>(s.id,s.k))=_;rw[Zn];unfold eM;rw[zfz];refine zH fun a _=>?_;unfold kC;rw[Zn]
theorem aV.pH:(aY p).Nodup:=by
 unfold aY;have hp:=h.nice.Nr;rw[qO]at hp;rw[M3];refine⟨?_,?_,fun a ha b hb e=>?_⟩
 ·rw[List.Nodup,qO,zmk];refine hp.imp_of_mem fun{a b} ha hb aq e=>?_;rw[h.ng ha,h.ng hb]at e;omega
 ·rw[List.Nodup,qO];exact hp.imp fun{a b} aq e=>by omega
 ·obtain⟨x,hx,rfl⟩:=jA.1 ha;obtain⟨y,hy,rfl⟩:=jA.1 hb;rw[Sw]at hx;rw[h.ng hx]at e;have i1:=h.pid x hx;have i2:=h.pid y hy;omega
theorem aV.vF{c:List Int}(hn:c.Nodup)(hs:∀ d∈c,d∈aY p)(W:Int->Int):sm W c=sm (fun a=>b2 (c.contains a.id)*W a.id+b2 (c.contains (-a.id))*W (-a.id)) p.az.l:=by
 have hp:c.Perm ((aY p).filter fun d=>c.contains d):=(VT hn (h.pH.filter _)).2 fun d=>by rw[tu,nM];exact⟨fun hd=>⟨hs d hd,hd⟩,fun hd=>hd.2⟩
 rw[zd6 hp,zab];unfold aY;rw[zC,Zn,Zn,xT,←xU];refine zH fun a ha=>?_;simp only[h.ng ha];exact Int.add_comm _ _
end
def mQ(L0:Int)(w:Nat):List Int:=(List.range w).map fun k:Nat=>L0+(k:Int)
theorem FV{L0:Int}{w:Nat}:mQ L0 (w+1)=mQ L0 w++[L0+(w:Int)]:=by unfold mQ;rw[Xw,E6];rfl
theorem Pg{L0 m:Int}{w:Nat}(h1:L0<=m)(h2:m<L0+w):m∈mQ L0 w :=
 jA.2 ⟨(m-L0).toNat,rN.2 Ω,Ω⟩
section
variable {n:Nat} (Dr:bw n) {PI:Int}
theorem bw.JQ(i:Ix n){L0:Int}(h0:L0<=Dr.lo i):∀ w:Nat,sm (fun m=>b2 (decide (Dr.lo i<=m)&&decide (m<Dr.hi i))*(Dr.rp PI m i+Dr.rp PI (m+1) i)) (mQ L0 w)=(2*Dr.rp PI (Dr.lo i) i+Dr.be PI i*(max (Dr.lo i) (min (Dr.hi i) (L0+(w:Int)))-Dr.lo i))*(max (Dr.lo i) (min (Dr.hi i) (L0+(w:Int)))-Dr.lo i)
 |0=>by have e:max (Dr.lo i) (min (Dr.hi i) (L0+((0:Nat):Int)))=Dr.lo i:=Ω;rw[e,znd,VJ];rfl
 |w+1=>by
  rw[FV,zC,bw.JQ i h0 w];simp only[sm];by_cases c:Dr.lo i<=L0+(w:Int)/\L0+(w:Int)<Dr.hi i
  ·have e1:max (Dr.lo i) (min (Dr.hi i) (L0+(w:Int)))=L0+(w:Int):=Ω;have e2:max (Dr.lo i) (min (Dr.hi i) (L0+((w+1:Nat):Int)))=L0+(w:Int)+1:=Ω;have a1:=Dr.SK (PI:=PI) (i:=i) (h:=Dr.lo i) (L0+(w:Int)-Dr.lo i);have a2:=Dr.SK (PI:=PI) (i:=i) (h:=Dr.lo i) (L0+(w:Int)+1-Dr.lo i);rw[show Dr.lo i+(L0+(w:Int)-Dr.lo i)=L0+(w:Int) by omega]at a1;rw[show Dr.lo i+(L0+(w:Int)+1-Dr.lo i)=L0+(w:Int)+1 by omega]at a2;rw[e1,e2,a1,a2,decide_eq_true c.1,decide_eq_true c.2];simp only[HH,show b2 true=1 from rfl];generalize Dr.rp PI (Dr.lo i) i=r;generalize Dr.be PI i=b;rw[show L0+(w:Int)+1-Dr.lo i=(L0+(w:Int)-Dr.lo i)+1 by omega];generalize L0+(w:Int)-Dr.lo i=u;grind
  ·have e2:max (Dr.lo i) (min (Dr.hi i) (L0+((w+1:Nat):Int)))=max (Dr.lo i) (min (Dr.hi i) (L0+(w:Int))):=by
    have:=Dr.hne i;have:Dr.lo i<Dr.hi i:=by unfold bw.lo bw.hi;omega
    omega
   have e3:(decide (Dr.lo i<=L0+(w:Int))&&decide (L0+(w:Int)<Dr.hi i))=false:=by rw[VN,vB,vB];omega
   rw[e2,e3];simp only[show b2 false=0 from rfl,M4,Int.add_zero]
variable (bK:0<PI) (hd:∀ i,((Dr.B i).h-(Dr.A i).h)∣PI)
theorem bw.K8{f:Dt (Ix n)->Bool}{L0:Int}{w:Nat}(h0:∀ i,L0<=Dr.lo i)(h1:∀ i,Dr.hi i<=L0+(w:Int)):qM (Dr.bn bK hd).bk (Dr.bn bK hd).key (mQ L0 w) f=sm (fun i=>sg f i*((Dr.rp PI (Dr.lo i) i+Dr.rp PI (Dr.hi i) i)*(Dr.hi i-Dr.lo i))) (List.finRange n):=by
 have row:∀ m,lZ ((Dr.bn bK hd).key m) (sg f) ((Dr.bn bK hd).bk.L m)=sm (fun i=>sg f i*(b2 (decide (Dr.lo i<=m)&&decide (m<Dr.hi i))*(Dr.rp PI m i+Dr.rp PI (m+1) i))) (List.finRange n):=fun m=>by unfold lZ;show sm _ ((Dr.bn bK hd).L m)=_;unfold ez.L;rw[zd6 (zmx _ _),zab];exact zH fun i _=>Int.mul_left_comm _ _ _
 unfold qM;rw[zH fun m _=>row m,Ib];refine zH fun i _=>?_;rw[YA,Dr.JQ i (h0 i) w];have e:max (Dr.lo i) (min (Dr.hi i) (L0+(w:Int)))=Dr.hi i:=by have:=h1 i;have:=(Dr.bn bK hd).lt i;have:Dr.lo i<Dr.hi i:=this;omega
 have a1:=Dr.SK (PI:=PI) (i:=i) (h:=Dr.lo i) (Dr.hi i-Dr.lo i);rw[show Dr.lo i+(Dr.hi i-Dr.lo i)=Dr.hi i by omega]at a1;rw[e,a1];congr 2;omega
end
def xe(a b:Pt):Int:=a.x*b.y-b.x*a.y
def gg(q:Pt):Int:=8388608*(q.x*q.y)-q.x*q.x
theorem KW(a b:Pt):(a.x+b.x)*(b.h-a.h)=8388608*xe a b+(gg b-gg a):=by unfold xe gg Pt.h;grind
theorem N5{g:Nat->Int}:∀ n:Nat,sm (fun k=>g (k+1)-g k) (List.range n)=g n-g 0
 |0=>(znd _).symm
 |n+1=>by rw[Xw,zC,N5 n];simp only[sm];omega
section
variable (N:Net) {PI:Int} (bK:0<PI) (hd:∀ i,((N.drawn.B i).h-(N.drawn.A i).h)∣PI)
def Net.tau(a:Int):Int:=sm (fun k=>xe (N.pt a k) (N.pt a (k+1))) (List.range (N.len a))
def Net.lI(d:Int):Int:=if 0<d then N.tau d else-N.tau (-d)
def Net.pQ(c:List Int):Int:=sm N.lI c
include bK hd
theorem Net.KR(c:Int->Bool)(s:Ix N.E.length):sg (fun x=>c (N.bE x)) s*((N.drawn.rp PI (N.drawn.lo s) s+N.drawn.rp PI (N.drawn.hi s) s)*(N.drawn.hi s-N.drawn.lo s))=(b2 (c N.E[s].1)-b2 (c (-N.E[s].1)))*(PI*(((N.drawn.A s).x+(N.drawn.B s).x)*((N.drawn.B s).h-(N.drawn.A s).h))):=by
 have eA:=N.drawn.jM bK hd (i:=s) (P:=N.drawn.A s) (.inl rfl);have eB:=N.drawn.jM bK hd (i:=s) (P:=N.drawn.B s) (.inr rfl);have hne:=N.drawn.hne s;by_cases au:(N.drawn.A s).h<(N.drawn.B s).h
 ·have e1:N.drawn.lo s=(N.drawn.A s).h:=by unfold bw.lo;omega
  have e2:N.drawn.hi s=(N.drawn.B s).h:=by unfold bw.hi;omega
  have f1:N.fwd ⟨s,true⟩=true:=by unfold Net.fwd;simp[au]
  have f2:N.fwd ⟨s,false⟩=false:=by unfold Net.fwd;simp[au]
  have d1:N.bE ⟨s,true⟩=N.E[s].1:=by unfold Net.bE;rw[f1,bt rfl]
  have d2:N.bE ⟨s,false⟩=-N.E[s].1:=by unfold Net.bE;rw[f2,bC Δ]
  show(b2 (c (N.bE ⟨s,true⟩))-b2 (c (N.bE ⟨s,false⟩)))*_=_;rw[d1,d2,e1,e2,eA,eB];generalize b2 (c N.E[s].1)-b2 (c (-N.E[s].1))=u;congr 1;grind
 ·have e1:N.drawn.lo s=(N.drawn.B s).h:=by unfold bw.lo;omega
  have e2:N.drawn.hi s=(N.drawn.A s).h:=by unfold bw.hi;omega
  have f1:N.fwd ⟨s,true⟩=false:=by unfold Net.fwd;simp[au]
  have f2:N.fwd ⟨s,false⟩=true:=by unfold Net.fwd;simp[au]
  have d1:N.bE ⟨s,true⟩=-N.E[s].1:=by unfold Net.bE;rw[f1,bC Δ]
  have d2:N.bE ⟨s,false⟩=N.E[s].1:=by unfold Net.bE;rw[f2,bt rfl]
  show(b2 (c (N.bE ⟨s,true⟩))-b2 (c (N.bE ⟨s,false⟩)))*_=_;rw[d1,d2,e1,e2,eA,eB];generalize b2 (c N.E[s].1)=u;generalize b2 (c (-N.E[s].1))=v;grind
end
section
variable {p:Pn} (h:aV p) {PI:Int} (bK:0<PI) (hd:∀ i,((h.bp.drawn.B i).h-(h.bp.drawn.A i).h)∣PI)
theorem aV.xP{a:Ac}(ha:a∈p.az.l):h.bp.lI (-a.id)=- h.bp.lI a.id:=by have:=h.pid a ha;unfold Net.lI;rw[bC Ω,bt Ω,tA]
theorem aV.Vr{c:List Int}(hn:c.Nodup)(hs:∀ d∈c,d∈aY p)(lY:sm (fun d=>gg (h.bp.sp (-d))-gg (h.bp.sp d)) c=0){L0:Int}{w:Nat}(h0:∀ i,L0<=h.bp.drawn.lo i)(h1:∀ i,h.bp.drawn.hi i<=L0+(w:Int)):qM (h.bp.drawn.bn bK hd).bk (h.bp.drawn.bn bK hd).key (mQ L0 w) (fun x=>c.contains (h.bp.bE x))=PI*(8388608*h.bp.pQ c):=by
 rw[h.bp.drawn.K8 bK hd h0 h1,zH fun i _=>h.bp.KR bK hd (fun d=>c.contains d) i];have e1:=h.Ia fun e=>(b2 (c.contains e.1)-b2 (c.contains (-e.1)))*(PI*(((h.bp.pt e.1 e.2).x+(h.bp.pt e.1 (e.2+1)).x)*((h.bp.pt e.1 (e.2+1)).h-(h.bp.pt e.1 e.2).h)));refine e1.trans ?_;have hW:=h.vF hn hs fun d=>PI*(8388608*h.bp.lI d+(gg (h.bp.sp (-d))-gg (h.bp.sp d)));have e2:sm (fun d=>PI*(8388608*h.bp.lI d+(gg (h.bp.sp (-d))-gg (h.bp.sp d)))) c=PI*(8388608*h.bp.pQ c):=by rw[YA,xU,lY,YA,Int.add_zero];rfl
 rw[←e2,hW];refine zH fun a ha=>?_;have hid:=h.pid a ha;have e3:sm (fun k=>(b2 (c.contains a.id)-b2 (c.contains (-a.id)))*(PI*(((h.bp.pt a.id k).x+(h.bp.pt a.id (k+1)).x)*((h.bp.pt a.id (k+1)).h-(h.bp.pt a.id k).h)))) (List.range ((bu p a).length-1))=(b2 (c.contains a.id)-b2 (c.contains (-a.id)))*(PI*(8388608*h.bp.tau a.id+(gg (h.bp.sp (-a.id))-gg (h.bp.sp a.id)))):=by
  rw[YA,YA,zH fun k _=>KW (h.bp.pt a.id k) (h.bp.pt a.id (k+1)),xU,YA,N5 (g:=fun k=>gg (h.bp.pt a.id k))];have s1:h.bp.sp a.id=h.bp.pt a.id 0:=by unfold Net.sp;rw[bt Ω]
  have s2:h.bp.sp (-a.id)=h.bp.pt a.id ((bu p a).length-1):=by unfold Net.sp;rw[bC Ω,tA,h.len ha]
  rw[s1,s2];unfold Net.tau;rw[h.len ha]
 refine e3.trans ?_;rw[h.xP ha,tA,show h.bp.lI a.id=h.bp.tau a.id by unfold Net.lI;rw[bt Ω]];grind
end
theorem Nv.image{f:Int->Int}{D:List Int}{z:Int}{c:List Int}(h:Nv f D z c)(inj:∀ x∈D,∀ y∈D,f x=f y->x=y)(hz:f (fc c)=z):(c.map f).Perm c:=by
 refine(VT ?_ h.nodup).2 fun x=>?_
 ·rw[List.Nodup,qO];exact h.nodup.imp_of_mem fun{a b} ha hb aq e=>aq (inj a (h.sub a ha) b (h.sub b hb) e)
 ·rw[jA];constructor
  ·rintro⟨y,hy,rfl⟩;exact(h.closed inj hz (h.sub y hy)).2 hy
  ·intro hx;obtain⟨i,hi⟩:=pY hx;rcases i with -|i
   ·rw[h.head]at hi;exact⟨fc c,j5 h.last,by rw[hz];exact kT hi⟩
   ·have hl:=(cU.1 hi).1;have Wq:c[i]?=some c[i]:=cK Ω;have:=h.step i _ Wq hl;rw[hi]at this;exact⟨c[i],gU _,(kT this).symm⟩
theorem zf1{f:Int->List Int}{D:List Int}(hsame:∀ z∈D,∀ w∈D,∀ d,d∈f z->d∈f w->∀ x,x∈f z->x∈f w)(hmem:∀ z,z∈f z):∀(ds met:List Int)(o:List (List Int)),(∀ z∈ds,z∈D)->(∀ c∈o,(∃ z∈D,c=f z)/\∀ d∈c,d∈met)->o.Pairwise (fun a b=>∀ d,d∈a->d∈b->False)->(gX f id ds met o).Pairwise (fun a b=>∀ d,d∈a->d∈b->False)
 |[],met,o,_,_,h=>h
 |z::ds,met,o,hD,ho,h=>by
  unfold gX;split
  ·exact zf1 hsame hmem ds met o (fun x hx=>hD x (nk _ hx)) ho h
  ·rename_i hc;have hz:=hD z (kB ..);refine zf1 hsame hmem ds (met++f z) (o++[f z]) (fun x hx=>hD x (nk _ hx)) (fun c mF=>?_) ?_
   ·rcases og.1 mF with mF|mF
    ·obtain⟨h1,h2⟩:=ho c mF;exact⟨h1,fun d hd=>SA _ (h2 d hd)⟩
    ·rw[qx]at mF;subst mF;exact⟨⟨z,hz,rfl⟩,fun d hd=>XI _ hd⟩
   ·rw[VM];refine⟨h,zoe ..,fun a ha b hb d h1 h2=>hc ?_⟩;rw[qx]at hb;subst hb;obtain⟨⟨y,hy,rfl⟩,h3⟩:=ho a ha;exact nM.2 (h3 z (hsame z hz y hy d h2 h1 z (hmem z)))
theorem Pe{q:Pt}(h:q.near):-20000000000000<=q.h/\q.h<20000000000000:=by unfold Pt.near at h;unfold Pt.h;omega
theorem bw.cover{n:Nat}(Dr:bw n):∃(L0:Int)(w:Nat),∀ i,L0<=Dr.lo i/\Dr.hi i<=L0+(w:Int):=by refine⟨-20000000000000,(40000000000000:Int).toNat,fun i=>?_⟩;have h1:=Pe (Dr.oU i);have h2:=Pe (Dr.oS i);unfold bw.lo bw.hi;rw[show(((40000000000000:Int).toNat:Nat):Int)=40000000000000 from Int.toNat_of_nonneg Δ];omega
section
variable {n:Nat} (Dr:bw n) {PI:Int} (bK:0<PI) (hd:∀ i,((Dr.B i).h-(Dr.A i).h)∣PI)
theorem bw.wj{m:Int}{i:Ix n}:i∈(Dr.bn bK hd).bk.L m↔Dr.lo i<=m/\m<Dr.hi i:=(Dr.bn bK hd).bk.mem m i
theorem bw.empty{L0:Int}(h0:∀ i,L0<=Dr.lo i):(Dr.bn bK hd).bk.L (L0-1)=[]:=List.eq_nil_iff_forall_not_mem.2 fun i hi=>by have:=(Dr.wj bK hd).1 hi;have:=h0 i;omega
theorem bw.rows{L0:Int}{w:Nat}(h0:∀ i,L0<=Dr.lo i)(h1:∀ i,Dr.hi i<=L0+(w:Int)){m:Int}(hm:(Dr.bn bK hd).bk.L m≠[]):m∈mQ L0 w:=by obtain⟨i,hi⟩:=List.exists_mem_of_ne_nil _ hm;have:=(Dr.wj bK hd).1 hi;have:=h0 i;have:=h1 i;exact Pg Ω Ω
end
section
variable {p:Pn} (h:aV p)
include h
theorem aV.Cx{z:Int}(hz:z∈aY p):z∈bZ (bS p) (bW p) z:=j5 (h.mm hz).1.head
theorem aV.GZ{z:Int}(hz:z∈aY p)(G:Pt->Int):sm (fun d=>G (h.bp.sp (-d))-G (h.bp.sp d)) (bZ (bS p) (bW p) z)=0:=by
 obtain⟨o,e⟩:=h.mm hz;have h1:sm (fun d=>G (h.bp.sp (-d))) (bZ (bS p) (bW p) z)=sm (fun d=>G (h.bp.sp (iN p d))) (bZ (bS p) (bW p) z):=zH fun d hd=>by rw[(h.pS (h.fk.1 (o.sub d hd))).2]
 have h2:=Zn (f:=fun d=>G (h.bp.sp d)) (h:=iN p) (l:=bZ (bS p) (bW p) z);rw[zd6 (o.image h.tN e)]at h2;rw[y5,h1,←h2];omega
theorem aV.Bs:(aW p).Pairwise fun a b=>∀ d,d∈a->d∈b->False:=by
 unfold aW;refine zf1 (D:=aY p) (fun z hz w hw d h1 h2 x hx=>(h.uj hz hw h1 h2 x).1 hx) (fun z=>?_) _ _ _ (fun _ hz=>hz) (fun _ hc=>absurd hc j4) List.Pairwise.nil;have key:∀(k:Nat)(l:List Int),z∈l->z∈jU (IX (bS p) (bW p)) z k l:=fun k=>by
  induction k with
  |zero=>intro l hl;exact hl
  |succ k ih =>
   intro l hl
   unfold jU
   split
   ·exact hl
   ·exact ih _ (SA _ hl)
 exact key _ _ Ψ
variable {PI:Int} (bK:0<PI) (hd:∀ i,((h.bp.drawn.B i).h-(h.bp.drawn.A i).h)∣PI)
theorem aV.ux{z:Int}(hz:z∈aY p){L0:Int}{w:Nat}(h0:∀ i,L0<=h.bp.drawn.lo i)(h1:∀ i,h.bp.drawn.hi i<=L0+(w:Int)):qM (h.bp.drawn.bn bK hd).bk (h.bp.drawn.bn bK hd).key (mQ L0 w) (fun x=>(bZ (bS p) (bW p) z).contains (h.bp.bE x))=PI*(8388608*h.bp.pQ (bZ (bS p) (bW p) z)) :=
 h.Vr bK hd (h.mm hz).1.nodup (h.mm hz).1.sub (h.GZ hz gg) h0 h1
theorem aV.rX{z:Int}(hz:z∈aY p)(hc:bZ (bS p) (bW p) z∈aW p){x0:Dt (Ix h.bp.E.length)}(hx:h.bp.bE x0=z):0<h.bp.pQ (bZ (bS p) (bW p) z)↔¬ (h.bp.drawn.bn bK hd).bk.lu ((h.bp.drawn.bn bK hd).bk.part x0.s) (fun x=>(bZ (bS p) (bW p) z).contains (h.bp.bE x)):=by
 obtain⟨L0,w,LU⟩:=h.bp.drawn.cover;have hA:=h.ux bK hd hz (fun i=>(LU i).1) (fun i=>(LU i).2);have wD:=h.of bK hd hz hc hx;have afp:=h.bp.drawn.empty bK hd (fun i=>(LU i).1);have Un:(bZ (bS p) (bW p) z).contains (h.bp.bE x0)=true:=nM.2 (by rw[hx];exact h.Cx hz);generalize hf:(fun x=>(bZ (bS p) (bW p) z).contains (h.bp.bE x))=f at hA wD ⊢;have Gs:f x0=true:=by rw[←hf];exact Un
 constructor
 ·intro hp ho;have h2:=RA (pos:=(h.bp.drawn.bn bK hd).key) (ms:=mQ L0 w) afp (fun m=>(h.bp.drawn.bn bK hd).jH) wD ho;rw[hA]at h2;have:=Ko bK (show 0<8388608*h.bp.pQ (bZ (bS p) (bW p) z) by omega);omega
 ·intro ho;have hk:=zcn wD ho (zaa x0.s);obtain⟨A,B,hAB⟩:=zfk (T:=(h.bp.drawn.bn bK hd).bk) x0.s;have hE:=ZJ wD.qR hAB;have hst:∃ A B,(h.bp.drawn.bn bK hd).bk.L ((h.bp.drawn.bn bK hd).bk.lo x0.s)=A++B/\0<sm (sg f) B:=by
   unfold cI.p9 at hk;rw[hE]at hk;cases hdn:f ⟨x0.s,false⟩
   ·rw[hdn]at hk;have DC:f ⟨x0.s,true⟩=true:=by
     obtain⟨s,u⟩:=x0;cases u
     ·rw[hdn]at Gs;cases Gs
     ·exact Gs
    refine⟨A,x0.s::B,hAB,?_⟩;show 0<sg f x0.s+sm (sg f) B;unfold sg ou at *;rw[DC,hdn];simp only[b2,l7,if_false,if_true]at hk ⊢;unfold sg at hk;simp only[b2]at hk;omega
   ·rw[hdn]at hk;refine⟨A++[x0.s],B,by rw[hAB];simp,?_⟩;unfold ou at hk;simp only[b2,if_true]at hk;omega
  have h2:=(YR (T:=(h.bp.drawn.bn bK hd).bk) (pos:=(h.bp.drawn.bn bK hd).key) (ms:=mQ L0 w) (fun m _=>(h.bp.drawn.bn bK hd).jH) (τ:=sg f) (fun m A B e=>by
   have hw:=xK wD ho e;unfold ou at hw;omega) (fun m=>total wD.qR.LW afp m)).2 ⟨_,h.bp.drawn.rows bK hd (fun i=>(LU i).1) (fun i=>(LU i).2) (by rw [hAB]; simp),hst⟩
  have h2:0<qM (h.bp.drawn.bn bK hd).bk (h.bp.drawn.bn bK hd).key (mQ L0 w) f:=h2;rw[hA]at h2;by_cases hp:0<h.bp.pQ (bZ (bS p) (bW p) z)
  ·exact hp
  ·have:=NG (HG bK) (show 8388608*h.bp.pQ (bZ (bS p) (bW p) z)<=0 by omega);omega
end
theorem zb4{a b q:Pt}:tw b a q=- tw a b q:=by unfold tw;grind
theorem Im{a b q:Pt}(ha:a.near)(hb:b.near)(hq:q.near):decide (0<Io a b q)=decide (0<tw a b q):=by
 unfold Io;rw[XT (zI ha) (zI hb) (zI hq),←SC];by_cases h1:0<tw a b q
 ·simp[h1]
 ·by_cases h2:tw a b q<0<;>simp[h1,h2]
theorem CC{a b q:Pt}(ha:a.near)(hb:b.near)(hq:q.near):(Io a b q==0)=decide (tw a b q=0):=by
 unfold Io;rw[XT (zI ha) (zI hb) (zI hq),←SC];by_cases h1:0<tw a b q
 ·have:¬ tw a b q=0:=Ω;simp[h1,this]
 ·by_cases h2:tw a b q<0
  ·have:¬ tw a b q=0:=Ω;simp[h1,h2,this]
  ·have:tw a b q=0:=Ω;simp[this]
theorem zac{a b q:Pt}(ha:a.near)(hb:b.near)(hq:q.near):fN a b q=true↔(b.y<=q.y/\q.y<a.y/\tw a b q<0)∨(a.y<=q.y/\q.y<b.y/\0<tw a b q):=by
 unfold fN;rw[Im hb ha hq,Im ha hb hq,zb4];by_cases h1:b.y<a.y
 ·rw[decide_eq_true h1,bT];simp only[gJ,jk];omega
 ·rw[decide_eq_false h1,bL];simp only[gJ,jk];omega
theorem GY{a b q:Pt}(ha:a.near)(hb:b.near)(hq:q.near):fN a b q=fN b a q:=by rw[nU,zac ha hb hq,zac hb ha hq,zb4 (a:=a) (b:=b)];omega
theorem ray{a b q:Pt}(ha:a.near)(hb:b.near)(hq:q.near)(aq:a.h<b.h):(a.h<q.h/\q.h<b.h/\0<tw a b q)↔(a.y<=q.y/\q.y<b.y/\0<tw a b q):=by
 unfold Pt.near at ha hb hq;unfold Pt.h at *;constructor
 ·rintro⟨h1,h2,h3⟩;refine⟨Ω,?_,h3⟩;by_cases hy:q.y<b.y
  ·exact hy
  ·exfalso;have e:q.y=b.y:=Ω;have hx:b.x<q.x:=Ω;have e2:tw a b q=(b.y-a.y)*(b.x-q.x):=by unfold tw;rw[e];grind
   have:=NG (show 0<=b.y-a.y by omega) (show b.x-q.x<=0 by omega);omega
 ·rintro⟨h1,h2,h3⟩;refine⟨?_,Ω,h3⟩;by_cases hy:a.y<q.y
  ·omega
  ·have e:q.y=a.y:=Ω;have e2:tw a b q=(b.y-a.y)*(a.x-q.x):=by unfold tw;rw[e];grind
   have hx:q.x<a.x:=by
    by_cases hx:q.x<a.x
    ·exact hx
    ·have:=NG (show 0<=b.y-a.y by omega) (show a.x-q.x<=0 by omega);omega
   omega
theorem IK{c t:Int}(hc:0<c):0<c*(8388608*t)↔0<t:=by
 constructor
 ·intro h;by_cases ht:0<t
  ·exact ht
  ·have:=NG (HG hc) (show 8388608*t<=0 by omega);omega
 ·intro ht;exact Ko hc Ω
section
variable {n:Nat} (Dr:bw n) {PI:Int} (bK:0<PI) (hd:∀ i,((Dr.B i).h-(Dr.A i).h)∣PI)
theorem bw.ade{y:Dt (Ix n)}{q:Pt}(hy:Dr.gP y=q){s:Ix n}:s∈(Dr.bn bK hd).bk.Q q.h↔Dr.lo s<q.h/\q.h<Dr.hi s/\q.x*PI<Dr.rp PI q.h s:=by
 have hend:Dr.lo y.s=q.h∨Dr.hi y.s=q.h:=by
  have hu:=Dr.vD y;rw[hy]at hu;cases e:y.up
  ·exact .inr (hu.2 e).1.symm
  ·exact .inl (hu.1 e).1.symm
 have hrp:Dr.rp PI q.h y.s=q.x*PI:=Dr.jM bK hd (i:=y.s) (P:=q) (by rw[←hy];exact(Dr.rD y).imp (fun h=>h.1) (fun h=>h.1));have nh:(Dr.bn bK hd).at' q.h=q.x*PI:=((Dr.bn bK hd).at_end (i:=y.s) hend).symm.trans hrp;have hlh:Dr.lo y.s<=q.h/\q.h<=Dr.hi y.s:=by have:=(Dr.bn bK hd).lt y.s;have:Dr.lo y.s<Dr.hi y.s:=this;omega
 show s∈((Dr.bn bK hd).L q.h).filter (fun a=>decide ((Dr.bn bK hd).up q.h a=2))↔_;rw[tu,(Dr.bn bK hd).mT,jk];unfold ez.up;rw[nh];show(Dr.lo s<=q.h/\q.h<Dr.hi s)/\(if Dr.lo s=q.h then 1 else if Dr.rp PI q.h s<q.x*PI then 0 else 2)=2↔_
 by_cases c1:Dr.lo s=q.h
 ·rw[bt c1];omega
 ·rw[bC c1];by_cases c2:Dr.rp PI q.h s<q.x*PI
  ·rw[bt c2];omega
  ·rw[bC c2];constructor
   ·rintro⟨⟨a,b⟩,_⟩;refine⟨Ω,b,?_⟩;by_cases c3:Dr.rp PI q.h s=q.x*PI
    ·exfalso;by_cases hs:s=y.s
     ·subst hs;omega
     ·have z:=(Dr.bn bK hd).Z s y.s q.h hs a (HG b) hlh.1 hlh.2 (c3.trans hrp.symm);have z:Dr.lo s=q.h∨Dr.hi s=q.h:=z.1;omega
    ·omega
   ·rintro⟨a,b,c⟩;exact⟨⟨Ω,b⟩,rfl⟩
theorem bw.UY{y:Dt (Ix n)}{q:Pt}(hq:q.near)(hy:Dr.gP y=q){s:Ix n}:s∈(Dr.bn bK hd).bk.Q q.h↔fN (Dr.A s) (Dr.B s) q=true:=by
 rw[Dr.ade bK hd hy,zac (Dr.oU s) (Dr.oS s) hq];have e1:=Dr.Xk (hd s) q;have e2:=Dr.c_eq (hd s);have hne:=Dr.hne s;have nA:=Dr.oU s;have nB:=Dr.oS s;by_cases au:(Dr.A s).h<(Dr.B s).h
 ·have hl:Dr.lo s=(Dr.A s).h:=by unfold bw.lo;omega
  have hh:Dr.hi s=(Dr.B s).h:=by unfold bw.hi;omega
  have hc:0<Dr.c PI s:=by
   by_cases hc:0<Dr.c PI s
   ·exact hc
   ·have:=VQ (show Dr.c PI s<=0 by omega) (show 0<=(Dr.B s).h-(Dr.A s).h by omega);omega
  have hr:=ray nA nB hq au;have hp:=IK (t:=tw (Dr.A s) (Dr.B s) q) hc;rw[hl,hh];have hy2:(Dr.A s).y<=(Dr.B s).y:=by unfold Pt.near at nA nB;unfold Pt.h at au;omega
  constructor
  ·rintro⟨a,b,c⟩;exact .inr (hr.1 ⟨a,b,hp.1 Ω⟩)
  ·rintro(⟨a,b,c⟩|hx)
   ·omega
   ·obtain⟨a,b,c⟩:=hr.2 hx;have:=hp.2 c;exact⟨a,b,Ω⟩
 ·have LQ:(Dr.B s).h<(Dr.A s).h:=Ω;have hl:Dr.lo s=(Dr.B s).h:=by unfold bw.lo;omega
  have hh:Dr.hi s=(Dr.A s).h:=by unfold bw.hi;omega
  have hc:0 < - Dr.c PI s:=by
   by_cases hc:0 < - Dr.c PI s
   ·exact hc
   ·have:=NG (show 0<=Dr.c PI s by omega) (show(Dr.B s).h-(Dr.A s).h<=0 by omega);omega
  have hr:=ray nB nA hq LQ;have hp:=IK (t:=tw (Dr.B s) (Dr.A s) q) hc;have e3:- Dr.c PI s*(8388608*tw (Dr.B s) (Dr.A s) q)=Dr.c PI s*(8388608*tw (Dr.A s) (Dr.B s) q):=by rw[zb4];grind
  rw[e3]at hp;have e4:tw (Dr.B s) (Dr.A s) q=- tw (Dr.A s) (Dr.B s) q:=zb4;rw[hl,hh];have hy2:(Dr.B s).y<=(Dr.A s).y:=by unfold Pt.near at nA nB;unfold Pt.h at LQ;omega
  constructor
  ·rintro⟨a,b,c⟩;obtain⟨u,v,w⟩:=hr.1 ⟨a,b,hp.1 Ω⟩;exact .inl ⟨u,v,Ω⟩
  ·rintro(⟨u,v,w⟩|⟨a,b,c⟩)
   ·obtain⟨a,b,c⟩:=hr.2 ⟨u,v,Ω⟩;have:=hp.2 c;exact⟨a,b,Ω⟩
   ·omega
end
theorem abt(a b:Bool):b2 (xor a b)%2=(b2 a+b2 b)%2:=by cases a<;>cases b<;>rfl
def um(l:List Pt)(q:Pt):Int:=sm (fun k=>b2 (fN (l.getD k gB) (l.getD (k+1) gB) q)) (List.range (l.length-1))
theorem IU{l:List Pt}{q:Pt}{o:Bool}:∀ k,k+1<=l.length->b2 (iU l q o k)%2=(b2 o+sm (fun j=>b2 (fN (l.getD j gB) (l.getD (j+1) gB) q)) (List.range k))%2
 |0,_=>by simp[iU,sm]
 |k+1,hk=>by
  have ih:=IU (l:=l) (q:=q) (o:=o) k Ω;have h1:l[k]?=some (l.getD k gB):=by rw[mN,cK Ω];rfl
  have h2:l[k+1]?=some (l.getD (k+1) gB):=by rw[mN,cK Ω];rfl
  have e:iU l q o (k+1)=xor (iU l q o k) (fN (l.getD k gB) (l.getD (k+1) gB) q):=by
   show(match l[k]?,l[k+1]? with|some a,some b=>xor (iU l q o k) (fN a b q)|_,_=>iU l q o k)=_
   rw[h1,h2]
  rw[e,abt,Xw,zC];simp only[sm];omega
theorem zf2{l:List Pt}{q:Pt}{o:Bool}(hl:1<=l.length):b2 (mA l q o)%2=(b2 o+um l q)%2:=IU _ Ω
theorem D4{p:Pn}{q:Pt}:∀(c:List Int)(o:Bool),(∀ d∈c,1<=(bJ p d).length)->b2 (c.foldl (fun o z=>mA (bJ p z) q o) o)%2=(b2 o+sm (fun d=>um (bJ p d) q) c)%2
 |[],o,_=>by simp[sm]
 |d::c,o,h=>by have ih:=D4 (q:=q) c (mA (bJ p d) q o) fun x hx=>h x (nk _ hx);have h1:=zf2 (l:=bJ p d) (q:=q) (o:=o) (h d (kB ..));rw[Xz,ih];simp only[sm];omega
theorem zc1:∀(n:Nat)(g:Nat->Int),sm g (List.range n)=sm (fun k=>g (n-1-k)) (List.range n)
 |0,_=>rfl
 |n+1,g=>by
  have e1:sm g (List.range (n+1))=sm g (List.range n)+g n:=by rw[Xw,zC];simp only[sm];omega
  have e2:sm (fun k=>g (n+1-1-k)) (List.range (n+1))=g n+sm (fun k=>g (n-1-k)) (List.range n):=by
   rw[List.range_succ_eq_map];simp only[sm];rw[Zn];congr 1;exact zH fun k _=>by show g (n+1-1-(k+1))=g (n-1-k);congr 1;omega
  rw[e1,e2,zc1 n g];omega
theorem Yi{l:List Pt}{k:Nat}(hk:k<l.length):l.reverse.getD k gB=l.getD (l.length-1-k) gB:=by rw[mN,mN,XN hk]
theorem U1{l:List Pt}{q:Pt}(hl:∀ x∈l,x.near)(hq:q.near):um l.reverse q=um l q:=by unfold um;rw[uF,zc1 (l.length-1)];refine zH fun k hk=>?_;have hk:=rN.1 hk;rw[Yi Ω,Yi Ω,show l.length-1-(l.length-1-1-k)=k+1 by omega,show l.length-1-(l.length-1-1-k+1)=k by omega];rw[GY (hl _ (zL Ω)) (hl _ (zL Ω)) hq]
theorem zd7{l:List Pt}{q:Pt}:wg l q=true↔∃ k,k<l.length-1/\nC (l.getD k gB) (l.getD (k+1) gB) q=true:=by
 have key:∀ n,n<=l.length-1->(oQ l q n=true↔∃ k,k<n/\nC (l.getD k gB) (l.getD (k+1) gB) q=true):=fun n=>by
  induction n with
  |zero =>
   intro _
   constructor
   ·intro h;cases h
   ·rintro⟨k,h,_⟩;omega
  |succ n ih =>
   intro hn
   have h1:l[n]?=some (l.getD n gB):=by rw[mN,cK Ω];rfl
   have h2:l[n+1]?=some (l.getD (n+1) gB):=by rw[mN,cK Ω];rfl
   have e:oQ l q (n+1)=(oQ l q n||nC (l.getD n gB) (l.getD (n+1) gB) q):=by
    show(oQ l q n||match l[n]?,l[n+1]? with | some a,some b=>nC a b q | _,_=>false)=_
    rw[h1,h2]
   rw[e,nu,ih Ω]
   constructor
   ·rintro(⟨k,hk,ho⟩|ho)
    ·exact⟨k,Ω,ho⟩
    ·exact⟨n,Ω,ho⟩
   ·rintro⟨k,hk,ho⟩
    by_cases hkn:k<n
    ·exact .inl ⟨k,hkn,ho⟩
    ·have:k=n:=Ω
     subst this
     exact .inr ho
 exact key _ (dz _)
theorem YX{a b q:Pt}(ha:a.near)(hb:b.near)(hq:q.near):nC a b q=true↔tw a b q=0/\min a.x b.x<=q.x/\q.x<=max a.x b.x/\min a.y b.y<=q.y/\q.y<=max a.y b.y:=by
 unfold nC;rw[CC ha hb hq];have m1:∀ u v:Int,sC u v=min u v:=fun u v=>by unfold sC;split<;>omega
 have m2:∀ u v:Int,s9 u v=max u v:=fun u v=>by unfold s9;split<;>omega
 simp only[gJ,jk,m1,m2]
theorem Lx{a b q:Pt}(ha:a.near)(hb:b.near)(hq:q.near):nC a b q=nC b a q:=by rw[nU,YX ha hb hq,YX hb ha hq,zb4 (a:=a) (b:=b)];omega
theorem O9{a b q:Pt}(ha:a.near)(hb:b.near)(hq:q.near)(h:nC a b q=true):qP a b q=true:=by
 obtain⟨h0,h1,h2,h3,h4⟩:=(YX ha hb hq).1 h;have pa:=zI ha;have pb:=zI hb;have pq:=zI hq;unfold qP;rw[zB pa pb pa pq,Br pa pq pb pq,←SC,h0];have e:dot a q b q<=0:=by
  unfold dot;have x1:(q.x-a.x)*(q.x-b.x)<=0:=by
   by_cases c:a.x<=b.x
   ·exact NG Ω Ω
   ·exact VQ Ω Ω
  have x2:(q.y-a.y)*(q.y-b.y)<=0:=by
   by_cases c:a.y<=b.y
   ·exact NG Ω Ω
   ·exact VQ Ω Ω
  omega
 simp[pa,pb,pq,e]
theorem Pa{a b q:Pt}(ha:a.near)(hb:b.near)(h:q=a∨q=b):nC a b q=true:=by
 rcases h with rfl|rfl
 ·refine(YX ha hb ha).2 ⟨by unfold tw;grind,Ω,Ω,Ω,Ω⟩
 ·refine(YX ha hb hb).2 ⟨by unfold tw;grind,Ω,Ω,Ω,Ω⟩
end
end Go.Proofs.YtdacpmgnhkmnkaaGreatDoor
end
