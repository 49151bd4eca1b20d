/-
  A part of the proof: the small machine, its simulation and its walks.
-/
import Derived.Test.YtjibdelmjcenhaaGreatDoorPEb
import Derived.Test.YtjibdelmjcenhaaGreatDoorPEc
set_option linter.unusedVariables false
set_option linter.unusedSimpArgs false
set_option linter.unusedSectionVars false
set_option linter.defProp false
set_option maxRecDepth 1000000
set_option maxHeartbeats 3200000
open Nat renaming reduceLT → Xa, reduceAdd → Xb, reduceMul → Xc, reduceLeDiff → Xd, reduceEqDiff → Xe
open Go.Proofs.YtjibdelmjcenhaaGreatDoor.IV renaming int → aF
open Go.Proofs.YtjibdelmjcenhaaGreatDoor.aP renaming cells → aH
open Go.IntKind renaming i64 → aG
noncomputable section
namespace Go.Proofs.YtjibdelmjcenhaaGreatDoor
section
open Go Go.RowKit
variable {H:Type}{J:aS}{d k m sz:Nat}{lv:IV}{xs:List H}
theorem YQ{g:H->List IV}(hs:∀ a,(g a).length=sz)(hf:∀ a,∀ x∈g a,Fz k x){Pre:aS}(hm:k+1<=m)(hx:xs.length<9223372036854775808)(h:bE g sz d Pre.length J lv xs):freeze m d (Pre++J) lv=some (bZ hs xs hx).v:=by
 rcases h with⟨rfl,rfl⟩|⟨b,hne,rfl,h2⟩
 .exact yZ m Z d _
 .cases xs with
  |nil=>grind
  |cons x t=>exact yo (k:=k) hf Z rfl hs (by grind)
variable {R:aS}{ah:bq}{n0 slot:Nat}{ys:List H}
theorem KW{g:H->List IV}(hs:∀ a,(g a).length=sz){Pre V:aS}(h:bE g sz d Pre.length J lv xs)(hy:ys.length≠0)(hx:xs.length+ys.length<=1073741824)(hk:n0+slot=Pre.length+(J.length+k))(hf:R[k]?=some .free)
  (hsc:(ys.flatMap g).all IV.scalar=true) (hV:∀ b x,J[b]?=some x->V[Pre.length+b]?=some x) :
  ∃ e cH J2,aY d n0 (look d ah V) (Pre++(J++R)) sz lv (ys.flatMap g) ys.length slot=some (e,cH,Pre++J2)/\bE g sz d Pre.length J2 cH (xs++ys):=by
 have lz:k<R.length:=(ew.1 hf).1
 have gU:(J++R)[J.length+k]?=some .free:=by grind
 have au:J.length+k<(J++R).length:=by grind
 have hne:xs++ys≠[]:=by simp_all
 rcases h with⟨rfl,rfl⟩|⟨b,_,rfl,h2⟩
 .rw[yp hy xa1]
  exact xfh
 .have hb:b<J.length:=(ew.1 h2).1
  rw[zQ hy hx (zj hs) hsc (by simp[look,if_true];grind)]
  exact xe8
variable {b:Nat}{vis:List Nat}
theorem Pf{Pre:aS}{x:aP}(h:J[b]?=some x):(bI vis (Pre.length+J.length) (Pre++(J++R)))[Pre.length+b]?=some x:=by have hb:=(ew.1 h).1;rw[zu,zN,pN hb,h,iJ,decide_eq_true (show Pre.length+b<Pre.length+J.length by omega)];rfl
theorem ab4(s:Rg):∀ x∈s.c,Fz 3 x:=fun x hx=>by
 simp[Rg.c,eG,gm,gw]at hx;have hi:∀(k:IntKind)(z:Int),Fz 3 (.int k z):=fun k z n hn=>zp n Z;rcases hx with rfl|rfl|rfl|rfl|rfl|rfl|rfl|rfl|rfl|rfl|rfl|rfl
 .grind
 .grind
 .grind
 .exact zP zch s.a.via
 all_goals grind
def bC(p:Pn)(a:Ac):List Pt:=(cV p a.fr).at'::(a.via.l++[(cV p a.to).at'])
def jR(a:Ac)(l:List Pt):List Rg:=(List.range (l.length-1)).map fun k=>⟨a,k,l.length-1,l.getD k fS,l.getD (k+1) fS⟩
def lM(p:Pn):List Rg:=p.az.l.flatMap fun a=>jR a (bC p a)
variable {a:Ac}
theorem uB{l:List Pt}:(jR a l).length=l.length-1:=by simp[jR]
theorem NU{l:List Pt}{x y:Pt}(hx:l[k]?=some x)(hy:l[k+1]?=some y):(jR a l).take (k+1)=(jR a l).take k++[⟨a,k,l.length-1,x,y⟩]:=by
 have hl:=(ew.1 hy).1;have e:(jR a l)[k]?=some ⟨a,k,l.length-1,x,y⟩:=by unfold jR;grind
 rw[jh,e];rfl
theorem zcl{p:Pn}(h:a.via.l.length<=1000):(bC p a).length<=1002:=by simp[bC];omega
theorem zfq{p:Pn}(hv:∀ a∈p.az.l,a.via.l.length<=1000)(i:Nat):((p.az.l.take i).flatMap fun a=>jR a (bC p a)).length<=(p.az.l.take i).length*1001:=Aa fun a ha=>by have:=zcl (p:=p) (hv a (zlb ha));rw[uB];omega
def zd1{p:Pn}(hv:∀ a∈p.az.l,a.via.l.length<=1000)(ha:p.az.l.length<=1000):(lM p).length<9223372036854775808:=xep
variable {S:bX}
section
theorem U6(hS:bk S)(p:Pn)(hv:∀ a∈p.az.l,a.via.l.length<=1000)(ha:p.az.l.length<=1000):∃ N,aM S N 167 [.agg p.c] (bZ Rg.aV (lM p) (zd1 hv ha)).v:=by
 have Pc:∀ a∈p.az.l,∃ N,∀ m,N<=m->∃(q':aR 2 Pt.c),q'.l=bC p a/\∀ d ah aJ aa id,aL aO S m d ah aJ aa id 135 [.agg p.c,.agg a.c]=some (.r,.tuple [q'.v,.bool ((cT p a.fr).isSome&&(cT p a.to).isSome)],aa):=fun a h=>by obtain⟨q',h1,N,h2⟩:=OH hS p a (by grind);exact⟨N,fun m hm=>⟨q',h1,h2 m hm⟩⟩
 let⟨Np,hNp⟩:=ED p.az.l Pc;refine⟨Np+p.az.l.length+1040,zr (i:=i167) (hS _ _ M M M M) rfl rfl (bP rfl) (Np+p.az.l.length+1039) fun m hm d ah t af=>?_⟩;simp[slotsOf,za,zb,i167,Pn.c]at af;have MR:=p.az.eZ;simp[i167,V0,seval,af];refine zm p.az.l.length (fun i st=>∃(J:aS)(lv:IV),bE Rg.c 12 d 1 J lv ((p.az.l.take i).flatMap fun a=>jR a (bC p a))/\st.aa=p.o::J/\aN 55 st.t [(1,.ptrM d 0 0),(3,lv),(4,iv i)]) Z ⟨[],.nilsl,.inl ⟨M,rfl⟩,rfl,by simp[V0,seval,af,cZ]⟩ ?_;clear af;rintro i ⟨t,bJ⟩ KA hi ⟨J,lv,hO,rfl,af⟩ bp bK bQ;simp[za,zb,zf]at af;by_cases h:i<p.az.l.length
 .have hx:p.az.l[i]?=some p.az.l[i]:=dw h;let⟨q',hq1,lQ⟩:=hNp _ (gQ h) m Z;have MP:=hv _ (gQ h);have au:=zfq hv i;rw[ER,ML Z]at au;have hstep:(p.az.l.take (i+1)).flatMap (fun a=>jR a (bC p a))=(p.az.l.take i).flatMap (fun a=>jR a (bC p a))++jR p.az.l[i] (bC p p.az.l[i]):=by rw[jh,hx,oP,Bh];simp
  generalize p.az.l[i]=x at hx hq1 lQ MP hstep;generalize(p.az.l.take i).flatMap (fun a=>jR a (bC p a))=X at *;have IZ:=zcl (p:=p) MP;rw[←hq1]at IZ hstep;have RZ:=q'.eZ;have hrd:bB (p.az.l.flatMap Ac.c) (i*6) 6=some [aB x.id,aB x.fr,aB x.to,x.via.v,aB x.l,aB x.r]:=xa9;simp[zf,Pn.c,Ac.c]at lQ;simp[V0,seval,af,h,zc p.az h,hrd,lQ];refine zn (fun jj st=>∃(k:Nat)(J:aS)(lv:IV),q'.l.length-k<=jj/\k<=q'.l.length-1/\bE Rg.c 12 d 1 J lv (X++(jR x q'.l).take k)/\st.aa=p.o::J/\aN 55 st.t [(1,.ptrM d 0 0),(3,lv),(4,iv i),(5,q'.v),(7,iv k)]) q'.l.length Z ⟨0,_,lv,Z,Z,by simpa using hO.more _,rfl,by simp[V0,seval,af,cZ]⟩ ?_;clear af hO J lv;rintro jj2 ⟨t,bJ⟩ KB ⟨k,J,lv,hjk,hk,hO,rfl,af⟩ gJ jL kP;simp[za,zb,zf]at af;have hwk:=zt k;by_cases h2:k+1<q'.l.length
  .have h0:k<q'.l.length:=Z;obtain⟨y0,hx0⟩:=fc (l:=q'.l) (i:=k) h0;obtain⟨y1,hx1⟩:=fc (l:=q'.l) (i:=k+1) h2;have r0:bB (q'.l.flatMap Pt.c) (k*2) 2=some [aB y0.x,aB y0.y]:=(zd (sz:=2) (fun _=>rfl) 0 2 hx0 Z).trans rfl;have r1:bB (q'.l.flatMap Pt.c) ((k+1)*2) 2=some [aB y1.x,aB y1.y]:=(zd (sz:=2) (fun _=>rfl) 0 2 hx1 Z).trans rfl;have hXl:(X++(jR x q'.l).take k).length<=1001*1001:=by grind
   obtain ⟨e,cH,J2,bz,cL⟩:=KW (Pre:=[p.o]) (n0:=J.length+1) (slot:=0) (k:=0) (ah:=ah) (R:=[.free]) Rg.aV hO (ys:=[⟨x,k,q'.l.length - 1,y0,y1⟩]) M (by grind) (by grind) rfl (by
    have hvs:∀(cs:List IV)(n:Nat)(v:IV),Sl 2 cs n v->IV.scalar v=true:=fun cs n v h=>xf9
    have hv1:=hvs _ _ _ x.via.ok;rw[nu];intro y hy;simp[eT,jm,Rg.c,gF,eG,gm,gw]at hy;rcases hy with rfl|rfl|rfl|rfl|rfl|rfl|rfl|rfl|rfl|rfl|rfl|rfl
    .rfl
    .rfl
    .rfl
    .omega
    all_goals rfl) (V:=bI [] (J.length+1) (p.o::(J++[aP.free]))) (fun b y hb=>by
     have:=Pf (vis:=[]) (Pre:=[p.o]) (R:=[.free]) hb;grind)
   simp[gu,fP,eT,jm,Rg.c,fB,gq,gF,eB]at bz;rw[mo,←NU hx0 hx1]at cL;have cel:∀(lk:Nat->Nat->Option aP)(tight:Bool)(a b c e f g h i j k l m:IV),bW lk 12 (.slC [a,b,c,e,f,g,h,i,j,k,l,m] 1 12 tight)=some ([a,b,c,e,f,g,h,i,j,k,l,m],1):=fun lk tight _ _ _ _ _ _ _ _ _ _ _ _=>rfl;have NW:∀ a b c e f g h i j k l m:IV,rep [a,b,c,e,f,g,h,i,j,k,l,m] 1=[a,b,c,e,f,g,h,i,j,k,l,m]:=fun _ _ _ _ _ _ _ _ _ _ _ _=>rfl;simp only[V0,seval,af,hwk,h2,(oS:aT .i64 ((q'.l.length:Int)-1)=((q'.l.length-1:Nat):Int)),zc p.az h,zc q' h0,zc q' h2,hrd,r0,r1,NW,zh,zl,zq,cel,bz];exact gJ _ (q'.l.length-(k+1)) Z ⟨k+1,J2,cH,Z,Z,cL,rfl,bS⟩
  .simp only[V0,seval,af,hwk,h2];refine jL _ _ ?_;simp only[V0,seval,af,(zt i)];refine bp Z _ ⟨J,lv,?_,rfl,bS⟩;rw[hstep];rw[fT (by rw[uB];omega)]at hO;omega
 .simp[V0,seval,af,h];refine bK _ _ ?_;have cL:bE Rg.c 12 d 1 J lv (lM p):=by rw[fT Z]at hO;exact hO
  have f1:=YQ (Pre:=[p.o]) (m:=m) Rg.aV ab4 Z (zd1 hv ha) cL;simp[gu,fP]at f1;simp only[V0,seval,af];grind
end
theorem Rp{p:Pn}(hv:bL p)(h1:p.ns.l.length<=1000)(h2:p.az.l.length<=1000)(i:Nat):(p.ns.l.map Nd.at'++(p.az.l.take i).flatMap fun a=>a.via.l).length<=100001000:=by have h3:((p.az.l.take i).flatMap fun a=>a.via.l).length<=(p.az.l.take i).length*100000:=Aa fun a ha=>hv a (zlb ha);grind
theorem G6{p:Pn}(hv:bL p)(h1:p.ns.l.length<=1000)(h2:p.az.l.length<=1000):(iI p).length<9223372036854775808:=by have:=Rp hv h1 h2 p.az.l.length;rw[rD]at this;unfold iI;omega
theorem QW(hS:bk S)(p:Pn)(hv:bL p)(h1:p.ns.l.length<=1000)(h2:p.az.l.length<=1000):aM S (p.ns.l.length+p.az.l.length+10) 165 [.agg p.c] (bZ Pt.aV (iI p) (G6 hv h1 h2)).v:=by
 refine zr (i:=i165) (hS _ _ M M M M) rfl rfl (bP rfl) (p.ns.l.length+p.az.l.length+9) fun m hm d ah t af=>?_;simp[slotsOf,za,zb,i165,Pn.c]at af;simp[i165,V0,seval,af];refine zn (fun jj st=>∃(i:Nat)(J:aS)(lv:IV),p.ns.l.length-i<=jj/\i<=p.ns.l.length/\bE Pt.c 2 d 1 J lv ((p.ns.l.take i).map Nd.at')/\st.aa=p.o::J/\aN 38 st.t [(1,.ptrM d 0 0),(3,lv),(4,iv i)]) p.ns.l.length Z ⟨0,[],.nilsl,Z,Z,.inl ⟨M,rfl⟩,rfl,by simp[V0,seval,af,cZ]⟩ ?_;clear af;rintro jj ⟨t,aa⟩ KA ⟨i,J,lv,hjj,hi,hO,rfl,af⟩ bp bK bQ;simp[za,zb,zf]at af;by_cases h:i<p.ns.l.length
 .obtain⟨x,hx⟩:=fc (l:=p.ns.l) (i:=i) h;have hrd:bB (p.ns.l.flatMap Nd.c) (i*3+1) 2=some [aB x.at'.x,aB x.at'.y]:=(zd Nd.aV 1 2 hx Z).trans rfl;have hw:=zt i;have au:((p.ns.l.take i).map Nd.at').length=i:=by grind
  obtain⟨e,cH,J2,bz,cL⟩:=zI (Pre:=[p.o]) (n0:=J.length+1) (slot:=0) (k:=0) (ah:=ah) (R:=[.free]) Pt.aV hO (ys:=[x.at']) M (by grind) (by grind) rfl rfl;simp[gu,fP,eT,jm,Pt.c,zf,fB,gq,gF,eB]at bz;rw[←map_take (f:=Nd.at') hx]at cL;have cel:∀(lk:Nat->Nat->Option aP)(tight:Bool),bW lk 2 (.slC [aB x.at'.x,aB x.at'.y] 1 2 tight)=some ([aB x.at'.x,aB x.at'.y],1):=fun lk tight=>rfl;have NW:∀ a b:IV,rep [a,b] 1=[a,b]:=fun a b=>rfl;simp only[V0,seval,zc p.ns h,NW,zh,zl,zq, *];exact xfc
 .simp[V0,seval,af,h];refine bK _ _ ?_;simp[V0,seval];have F8:bE Pt.c 2 d 1 J lv (p.ns.l.map Nd.at'):=by grind
  clear hO;refine zm p.az.l.length (fun i st=>∃(J:aS)(lv:IV),bE Pt.c 2 d 1 J lv (p.ns.l.map Nd.at'++(p.az.l.take i).flatMap fun a=>a.via.l)/\st.aa=p.o::J/\aN 38 st.t [(1,.ptrM d 0 0),(3,lv),(5,iv i)]) Z ⟨J,lv,by grind,rfl,by simp[V0,seval,af,cZ]⟩ ?_;clear af bp bK bQ;rintro i ⟨t,aa⟩ KA hi ⟨J,lv,hO,rfl,af⟩ bp bK bQ;simp[za,zb,zf]at af;by_cases h:i<p.az.l.length
  .have hx:p.az.l[i]?=some p.az.l[i]:=dw h;have MP:=hv p.az.l[i] (gQ h);generalize p.az.l[i]=x at hx MP;have hrd:bB (p.az.l.flatMap Ac.c) (i*6+3) 1=some [x.via.v]:=(zd Ac.aV 3 1 hx Z).trans rfl;have hw:=zt i;have hle:=Rp hv h1 h2 i;have main:∃ e cH J2,aY d (J.length+1) (look d ah (p.o::(J++[.free]))) (p.o::(J++[.free])) 2 lv (x.via.l.flatMap Pt.c) x.via.l.length 0=some (e,cH,p.o::J2)/\bE Pt.c 2 d 1 J2 cH (p.ns.l.map Nd.at'++(p.az.l.take (i+1)).flatMap fun a=>a.via.l):=by
    rw[(show(p.ns.l.map Nd.at'++(p.az.l.take (i+1)).flatMap fun a=>a.via.l)=(p.ns.l.map Nd.at'++(p.az.l.take i).flatMap fun a=>a.via.l)++x.via.l by rw[zcf hx,mo])];by_cases h0:x.via.l.length=0
    .refine⟨.r,lv,J++[.free],?_,?_⟩
     .unfold aY;rw[bU h0];rcases hO with⟨_,rfl⟩|⟨b,_,rfl,_⟩<;>rfl
     .rw[uc.1 h0,gF];exact hO.more _
    .exact zI (Pre:=[p.o]) (n0:=J.length+1) (slot:=0) (k:=0) (ah:=ah) (R:=[.free]) Pt.aV hO (ys:=x.via.l) h0 Z (by grind) rfl (nu.2 fun y hy=>by
      obtain⟨z,_,hz⟩:=oQ.1 hy;simp[Pt.c,zf,eG,gm,gw]at hz;rcases hz with rfl | rfl <;> rfl)
   let⟨e,cH,J2,bz,cL⟩:=main;simp only[V0,seval,zc p.az h,zh,zl,zq,zB, *];exact bp Z _ ⟨J2,cH,cL,rfl,bS⟩
  .simp[V0,seval,af,h];refine bK _ _ ?_;have cL:bE Pt.c 2 d 1 J lv (iI p):=by rw[fT Z]at hO;exact hO
   have f1:=yy (Pre:=[p.o]) (m:=m) Pt.aV ZH Z (G6 hv h1 h2) cL;simp[gu,fP]at f1;simp only[V0,seval,af];grind
variable {K:eU}
section
theorem af6(hS:bk S)(p:Pn)(hv:bL p)(h1:p.ns.l.length<=1000)(h2:p.az.l.length<=1000)(hm:p.ns.l.length+p.az.l.length+(iI p).length+20<=m)(t:List IV)(O:aS)(af:aN 47 t [(1,.ptrM d 0 0)])
  (hK:∀ t' O',aN 47 t' [(2,.bool (!(iI p).any gj))]->K .ret ⟨t',O'⟩) :
  Ex (aL aO S m) d ah m (i133.body.sub [1,1,1]) K ⟨t,p.o::O⟩:=by
 simp[za,zb]at af
 have c0:=fun aJ aa i=>QW hS p hv h1 h2 m Z d ah aJ aa i
 generalize hpq:bZ Pt.aV (iI p) (G6 hv h1 h2)=q at c0
 rw[←(show q.l=iI p by rw[←hpq,zM])]at hK hm
 have RZ:=q.eZ
 have cv:∀(u:Pt) dd ah aJ aa i,aL aO S m dd ah aJ aa i 166 [.agg [aB u.x,aB u.y]]=some (.r,.bool (!gj u),aa):=fun u dd ah aJ aa i=>Q6 hS u m Z dd ah aJ aa i
 simp[Pn.c]at c0
 simp[i133,IC.sub,V0,seval,af,c0]
 refine zm q.l.length (fun i st=>∃(O:aS),(q.l.take i).any gj=false/\st.aa=O/\aN 47 st.t [(5,q.v),(6,iv i)]) Z ⟨_,M,rfl,by simp[V0,seval,af,cZ]⟩ ?_
 clear af
 rintro i ⟨t,aa⟩ KA hi ⟨O,ha,rfl,af⟩ bp bK bQ
 simp[za,zb,zf]at af
 by_cases h:i<q.l.length
 .obtain⟨x,hx⟩:=fc (l:=q.l) (i:=i) h
  have hrd:bB (q.l.flatMap Pt.c) (i*2) 2=some [aB x.x,aB x.y]:=(zd (sz:=2) (fun _=>rfl) 0 2 hx Z).trans rfl
  cases hq:gj x
  .simp only[V0,seval,af,h,zc q h,hrd,cv,hq,(zt i)]
   exact bp Z _ ⟨_,zJ hx ha hq,rfl,by simp[V0,seval,af]⟩
  .simp[V0,seval,af,h,zc q h,hrd,cv,hq]
   refine bQ _ ?_
   exact hK _ _ (by simp[V0,seval,af,yl hx hq])
 .simp[V0,seval,af,h]
  refine bK _ _ ?_
  simp[V0,seval]
  have hh:q.l.any gj=false:=by grind
  exact hK _ _ (by simp[V0,seval,af,hh])
theorem af7(hS:bk S)(p:Pn)(hv:bL p)(h1:p.ns.l.length<=1000)(h2:p.az.l.length<=1000)(xs:List Int)(hxs:xs.length<=1073741824)(hm:p.ns.l.length+p.az.l.length+(iI p).length+xs.length+20<=m)(t:List IV)(O:aS)(lv:IV)(hO:bE aK 1 d 1 O lv xs)(af:aN 47 t [(1,.ptrM d 0 0),(3,lv)])
  (hK:∀ t' O',aN 47 t' [(2,.bool (!xs.any iO&&!(iI p).any gj))]->K .ret ⟨t',O'⟩) :
  Ex (aL aO S m) d ah m (i133.body.sub [1,1]) K ⟨t,p.o::O⟩:=by
 simp[za,zb]at af
 have hR:=fun(K:eU) t O=>af6 hS p hv h1 h2 (m:=m) (d:=d) (ah:=ah) Z (K:=K) t O
 rw[show i133.body.sub [1,1]=.seq (i133.body.sub [1,1,0]) (i133.body.sub [1,1,1])from rfl]
 generalize i133.body.sub [1,1,1]=B at hR ⊢
 rcases hO with⟨rfl,rfl⟩|⟨b,hne,rfl,hb⟩
 .simp[i133,IC.sub,V0,seval]
  refine zn (fun jj st=>st.aa=p.o::O/\aN 47 st.t [(1,.ptrM d 0 0),(3,.nilsl),(4,aB 0)]) 0 Z ⟨rfl,bS⟩ ?_
  clear af
  rintro jj ⟨t,aa⟩ KA ⟨rfl,af⟩ bp bK bQ
  simp[za,zb]at af
  simp[V0,seval,af,(eq_false M:((0:Int)<0)=False)]
  refine bK _ _ ?_
  simp[V0,seval]
  exact xgp
 .have kK:(p.o::O)[1+b]?=some (aH (xs.flatMap aK)):=by grind
  simp[i133,IC.sub,V0,seval]
  refine zm xs.length (fun i st=>(xs.take i).any iO=false/\st.aa=p.o::O/\aN 47 st.t [(1,.ptrM d 0 0),(3,.slM d (1+b) 0 xs.length xs.length 1 false),(4,iv i)]) Z ⟨M,rfl,by simp[V0,seval,af,cZ]⟩ ?_
  clear af
  rintro i ⟨t,aa⟩ KA hi ⟨ha,rfl,af⟩ bp bK bQ
  simp[za,zb,zf]at af
  by_cases h:i<xs.length
  .obtain⟨x,hx⟩:=fc (l:=xs) (i:=i) h
   have hrd:bB (xs.flatMap aK) (i*1) 1=some [aB x]:=xbu
   have C2:bB (xs.flatMap aK) (0+i*1) 1=some [aB x]:=by grind
   have hw:=zt i
   cases q1:decide (x<1)
   .cases q2:decide (1073741824<x)
    .simp only[V0,seval,zo,ez, *]
     exact bp Z _ ⟨zJ hx ha (by simp[iO,q1,q2,Vq]),rfl,bS⟩
    .simp only[V0,seval,zo,ez, *]
     refine bQ _ ?_
     exact hK _ _ (by simp[V0,seval,af,(yl hx (by simp[iO,q1,q2,jg]):xs.any iO=true),dZ])
   .simp only[V0,seval,zo, *]
    refine bQ _ ?_
    exact hK _ _ (by simp[V0,seval,af,(yl hx (by simp[iO,q1,k9]):xs.any iO=true),dZ])
  .simp[V0,seval,af,h]
   refine bK _ _ ?_
   simp[V0,seval]
   have hh:xs.any iO=false:=by grind
   rw[hh]at hK
   exact xgp
end
theorem Yb(xs:List Int):(xs.flatMap aK).all IV.scalar=true:=by rw[nu];intro x hx;obtain⟨a,_,h⟩:=oQ.1 hx;simp[aK,zf,eG,gm,gw]at h;rw[h];rfl
theorem CV(xs:List Int):seg (xs.flatMap aK) 0 (xs.length*1)=some (xs.flatMap aK):=by unfold seg;exact xeb
variable {aJ:aS}
section
theorem zd2(hS:bk S)(p:Pn)(h1:p.ns.l.length<=1000000)(h2:p.az.l.length<=1000000)(jH:Bool)(h:gD p jH=[]){id:Nat}{aa:aS}(hm:p.ns.l.length+p.az.l.length+10<=m)(hid:aa[id]?=some .free):aL aO S m d ah aJ aa id 132 [.agg p.c,.bool jH]=some (.r,.nilsl,aa):=by
 exact xd0
theorem zd3(hS:bk S)(p:Pn)(h1:p.ns.l.length<=1000000)(h2:p.az.l.length<=1000000)(jH:Bool)(h:gD p jH≠[]){id:Nat}{aa:aS}(hm:p.ns.l.length+p.az.l.length+10<=m)(hid:aa[id]?=some .free):aL aO S m d ah aJ aa id 132 [.agg p.c,.bool jH]=some (.a,.slM d id 0 (gD p jH).length (gD p jH).length 1 false,aa.set id (aH ((gD p jH).flatMap aK))):=by
 exact xd0
def Fl(p:Pn):Bool:=!(gD p false++gD p true++p.fs.l).any iO&&!(iI p).any gj
theorem Mj(hS:bk S)(p:Pn)(hv:bL p)(h1:p.ns.l.length<=1000)(h2:p.az.l.length<=1000)(h3:p.fs.l.length<=1000):aM S (2*(p.ns.l.length+p.az.l.length)+p.fs.l.length+(iI p).length+30) 133 [.agg p.c] (.bool (Fl p)):=by
 refine zg (i:=i133) (hS _ _ M M M M) rfl rfl (bP rfl) (2*(p.ns.l.length+p.az.l.length)+p.fs.l.length+(iI p).length+29) Z zk fun m hm d ah t af=>?_;simp[slotsOf,za,zb,i133,Pn.c]at af;have hla:(gD p false).length=p.ns.l.length:=by simp[gD]
 have hlb:(gD p true).length=p.az.l.length:=by simp[gD]
 have hR:=fun(K:eU) t O lv=>af7 hS p hv h1 h2 (m:=m) (d:=d) (ah:=ah) (gD p false++gD p true++p.fs.l) (by grind) (by grind) (K:=K) t O lv;rw[show i133.body=.seq (i133.body.sub [0]) (.seq (i133.body.sub [1,0]) (i133.body.sub [1,1]))from rfl];generalize i133.body.sub [1,1]=B at hR ⊢;unfold Fl;have n0:=fun(h:gD p false=[]) aJ aa (hid:aa[1]?=some .free)=>zd2 hS p Z Z false h (m:=m) (d:=d) (id:=1) (ah:=ah) (aJ:=aJ) (aa:=aa) Z hid;have n1:=fun(h:gD p true=[]) aJ aa (hid:aa[2]?=some .free)=>zd2 hS p Z Z true h (m:=m) (d:=d) (id:=2) (ah:=ah) (aJ:=aJ) (aa:=aa) Z hid;have o0:=fun(h:gD p false≠[]) aJ aa (hid:aa[1]?=some .free)=>zd3 hS p Z Z false h (m:=m) (d:=d) (id:=1) (ah:=ah) (aJ:=aJ) (aa:=aa) Z hid;have o1:=fun(h:gD p true≠[]) aJ aa (hid:aa[2]?=some .free)=>zd3 hS p Z Z true h (m:=m) (d:=d) (id:=2) (ah:=ah) (aJ:=aJ) (aa:=aa) Z hid;generalize gD p false=A at *;generalize gD p true=Q at *;have sA:=CV A;have sQ:=CV Q;have fA:=zj ze (l:=A);have fQ:=zj ze (l:=Q);have fAQ:(A.flatMap aK++Q.flatMap aK).length=(A.length+Q.length)*1:=by grind
 have e5:[p.o,.free,.free,.free,.free][1]?=some .free:=rfl;simp only[Pn.c]at n0 n1 o0 o1;by_cases hA:A=[]
 .skip;by_cases hQ:Q=[]
  .skip;by_cases hC:p.fs.l=[]
   .skip;have Pw:p.fs.l.length=0:=by grind
    have c1:∀ aJ,aL aO S m d ah aJ [p.o,.free,.free,.free,.free] 1 132 [.agg [p.ns.v,p.az.v,p.fs.v],.bool false]=some (.r,.nilsl,[p.o,.free,.free,.free,.free]):=fun aJ=>n0 hA aJ _ rfl;have c2:∀ aJ,aL aO S m d ah aJ [p.o,.free,.free,.free,.free] 2 132 [.agg [p.ns.v,p.az.v,p.fs.v],.bool true]=some (.r,.nilsl,[p.o,.free,.free,.free,.free]):=fun aJ=>n1 hQ aJ _ rfl;have k1:∀ lk:Nat->Nat->Option aP,bW lk 1 .nilsl=some ([],0):=fun lk=>rfl;have ha1:∀(lk:Nat->Nat->Option aP) aa,aY d 1 lk aa 1 (.nilsl) [] 0 2=some (.r,.nilsl,aa):=fun lk aa=>rfl;have ha2:∀(lk:Nat->Nat->Option aP) aa,aY d 1 lk aa 1 (.nilsl) (p.fs.l.flatMap aK) p.fs.l.length 3=some (.r,.nilsl,aa):=fun lk aa=>by rw[Pw];rfl
    simp only[i133,IC.sub,V0,seval,af,c1,c2,k1,zh,zl,zq,zB,ha1,ha2];refine hR _ _ _ (.nilsl) (.inl ⟨by grind,rfl⟩) bS fun t' O' ht=>?_;exact xa2
   .skip;have Pw:p.fs.l.length≠0:=fun h=>hC (EC h);have c1:∀ aJ,aL aO S m d ah aJ [p.o,.free,.free,.free,.free] 1 132 [.agg [p.ns.v,p.az.v,p.fs.v],.bool false]=some (.r,.nilsl,[p.o,.free,.free,.free,.free]):=fun aJ=>n0 hA aJ _ rfl;have c2:∀ aJ,aL aO S m d ah aJ [p.o,.free,.free,.free,.free] 2 132 [.agg [p.ns.v,p.az.v,p.fs.v],.bool true]=some (.r,.nilsl,[p.o,.free,.free,.free,.free]):=fun aJ=>n1 hQ aJ _ rfl;have k1:∀ lk:Nat->Nat->Option aP,bW lk 1 .nilsl=some ([],0):=fun lk=>rfl;have ha1:∀(lk:Nat->Nat->Option aP) aa,aY d 1 lk aa 1 (.nilsl) [] 0 2=some (.r,.nilsl,aa):=fun lk aa=>rfl;have ha2:∀ lk:Nat->Nat->Option aP,aY d 1 lk [p.o,.free,.free,.free,.free] 1 .nilsl (p.fs.l.flatMap aK) p.fs.l.length 3=some (.a,.slM d 4 0 p.fs.l.length p.fs.l.length 1 false,[p.o,.free,.free,.free,aH (p.fs.l.flatMap aK)]):=fun lk=>by rw[yp Pw xa1];rfl
    simp only[i133,IC.sub,V0,seval,af,c1,c2,k1,zh,zl,zq,zB,ha1,ha2];refine hR _ _ _ (.slM d 4 0 p.fs.l.length p.fs.l.length 1 false) (.inr ⟨3,by grind,by grind,by grind⟩) bS fun t' O' ht=>?_;exact xa2
  .skip;have hq:Q.length≠0:=fun h=>hQ (EC h);by_cases hC:p.fs.l=[]
   .skip;have Pw:p.fs.l.length=0:=by grind
    have c1:∀ aJ,aL aO S m d ah aJ [p.o,.free,.free,.free,.free] 1 132 [.agg [p.ns.v,p.az.v,p.fs.v],.bool false]=some (.r,.nilsl,[p.o,.free,.free,.free,.free]):=fun aJ=>n0 hA aJ _ rfl;have c2:∀ aJ,aL aO S m d ah aJ [p.o,.free,.free,.free,.free] 2 132 [.agg [p.ns.v,p.az.v,p.fs.v],.bool true]=some (.a,.slM d 2 0 Q.length Q.length 1 false,[p.o,.free,aH (Q.flatMap aK),.free,.free]):=fun aJ=>o1 hQ aJ _ rfl;have k1:bW (look d ah (bI [0,1] 1 [p.o,.free,aH (Q.flatMap aK),.free,.free])) 1 (.slM d 2 0 Q.length Q.length 1 false)=some (Q.flatMap aK,Q.length):=by
     exact xb6
    have ha1:∀ lk:Nat->Nat->Option aP,aY d 1 lk [p.o,.free,aH (Q.flatMap aK),.free,.free] 1 .nilsl (Q.flatMap aK) Q.length 2=some (.a,.slM d 3 0 Q.length Q.length 1 false,[p.o,.free,aH (Q.flatMap aK),aH (Q.flatMap aK),.free]):=fun lk=>by rw[yp hq xa1];rfl
    have ha2:∀(lk:Nat->Nat->Option aP) aa,aY d 1 lk aa 1 (.slM d 3 0 Q.length Q.length 1 false) (p.fs.l.flatMap aK) p.fs.l.length 3=some (.r,.slM d 3 0 Q.length Q.length 1 false,aa):=fun lk aa=>by rw[Pw];rfl
    simp only[i133,IC.sub,V0,seval,af,c1,c2,k1,zh,zl,zq,zB,ha1,ha2];refine hR _ _ _ (.slM d 3 0 Q.length Q.length 1 false) (.inr ⟨2,by grind,by grind,by grind⟩) bS fun t' O' ht=>?_;exact xa2
   .skip;have Pw:p.fs.l.length≠0:=fun h=>hC (EC h);have c1:∀ aJ,aL aO S m d ah aJ [p.o,.free,.free,.free,.free] 1 132 [.agg [p.ns.v,p.az.v,p.fs.v],.bool false]=some (.r,.nilsl,[p.o,.free,.free,.free,.free]):=fun aJ=>n0 hA aJ _ rfl;have c2:∀ aJ,aL aO S m d ah aJ [p.o,.free,.free,.free,.free] 2 132 [.agg [p.ns.v,p.az.v,p.fs.v],.bool true]=some (.a,.slM d 2 0 Q.length Q.length 1 false,[p.o,.free,aH (Q.flatMap aK),.free,.free]):=fun aJ=>o1 hQ aJ _ rfl;have k1:bW (look d ah (bI [0,1] 1 [p.o,.free,aH (Q.flatMap aK),.free,.free])) 1 (.slM d 2 0 Q.length Q.length 1 false)=some (Q.flatMap aK,Q.length):=by
     exact xb6
    have ha1:∀ lk:Nat->Nat->Option aP,aY d 1 lk [p.o,.free,aH (Q.flatMap aK),.free,.free] 1 .nilsl (Q.flatMap aK) Q.length 2=some (.a,.slM d 3 0 Q.length Q.length 1 false,[p.o,.free,aH (Q.flatMap aK),aH (Q.flatMap aK),.free]):=fun lk=>by rw[yp hq xa1];rfl
    have ha2:aY d 1 (look d ah (bI [0,1,2] 1 [p.o,.free,aH (Q.flatMap aK),aH (Q.flatMap aK),.free])) [p.o,.free,aH (Q.flatMap aK),aH (Q.flatMap aK),.free] 1 (.slM d 3 0 Q.length Q.length 1 false) (p.fs.l.flatMap aK) p.fs.l.length 3=some (.k 3 4,.slM d 4 0 (Q.length+p.fs.l.length) (Q.length+p.fs.l.length) 1 false,[p.o,.free,aH (Q.flatMap aK),.gone,aH (Q.flatMap aK++p.fs.l.flatMap aK)]):=by rw[zQ Pw Z fQ (Yb _) xav];rfl
    simp only[i133,IC.sub,V0,seval,af,c1,c2,k1,zh,zl,zq,zB,ha1,ha2];refine hR _ _ _ (.slM d 4 0 (Q.length+p.fs.l.length) (Q.length+p.fs.l.length) 1 false) (.inr ⟨3,by grind,by grind,by grind⟩) bS fun t' O' ht=>?_;exact xa2
 .skip;by_cases hQ:Q=[]
  .skip;by_cases hC:p.fs.l=[]
   .skip;have Pw:p.fs.l.length=0:=by grind
    have c1:∀ aJ,aL aO S m d ah aJ [p.o,.free,.free,.free,.free] 1 132 [.agg [p.ns.v,p.az.v,p.fs.v],.bool false]=some (.a,.slM d 1 0 A.length A.length 1 false,[p.o,aH (A.flatMap aK),.free,.free,.free]):=fun aJ=>o0 hA aJ _ rfl;have c2:∀ aJ,aL aO S m d ah aJ [p.o,aH (A.flatMap aK),.free,.free,.free] 2 132 [.agg [p.ns.v,p.az.v,p.fs.v],.bool true]=some (.r,.nilsl,[p.o,aH (A.flatMap aK),.free,.free,.free]):=fun aJ=>n1 hQ aJ _ rfl;have k1:∀ lk:Nat->Nat->Option aP,bW lk 1 .nilsl=some ([],0):=fun lk=>rfl;have ha1:∀(lk:Nat->Nat->Option aP) aa,aY d 1 lk aa 1 (.slM d 1 0 A.length A.length 1 false) [] 0 2=some (.r,.slM d 1 0 A.length A.length 1 false,aa):=fun lk aa=>rfl;have ha2:∀(lk:Nat->Nat->Option aP) aa,aY d 1 lk aa 1 (.slM d 1 0 A.length A.length 1 false) (p.fs.l.flatMap aK) p.fs.l.length 3=some (.r,.slM d 1 0 A.length A.length 1 false,aa):=fun lk aa=>by rw[Pw];rfl
    simp only[i133,IC.sub,V0,seval,af,c1,c2,k1,zh,zl,zq,zB,ha1,ha2];refine hR _ _ _ (.slM d 1 0 A.length A.length 1 false) (.inr ⟨0,by grind,by grind,by grind⟩) bS fun t' O' ht=>?_;exact xa2
   .skip;have Pw:p.fs.l.length≠0:=fun h=>hC (EC h);have c1:∀ aJ,aL aO S m d ah aJ [p.o,.free,.free,.free,.free] 1 132 [.agg [p.ns.v,p.az.v,p.fs.v],.bool false]=some (.a,.slM d 1 0 A.length A.length 1 false,[p.o,aH (A.flatMap aK),.free,.free,.free]):=fun aJ=>o0 hA aJ _ rfl;have c2:∀ aJ,aL aO S m d ah aJ [p.o,aH (A.flatMap aK),.free,.free,.free] 2 132 [.agg [p.ns.v,p.az.v,p.fs.v],.bool true]=some (.r,.nilsl,[p.o,aH (A.flatMap aK),.free,.free,.free]):=fun aJ=>n1 hQ aJ _ rfl;have k1:∀ lk:Nat->Nat->Option aP,bW lk 1 .nilsl=some ([],0):=fun lk=>rfl;have ha1:∀(lk:Nat->Nat->Option aP) aa,aY d 1 lk aa 1 (.slM d 1 0 A.length A.length 1 false) [] 0 2=some (.r,.slM d 1 0 A.length A.length 1 false,aa):=fun lk aa=>rfl;have ha2:aY d 1 (look d ah (bI [0,1,2] 1 [p.o,aH (A.flatMap aK),.free,.free,.free])) [p.o,aH (A.flatMap aK),.free,.free,.free] 1 (.slM d 1 0 A.length A.length 1 false) (p.fs.l.flatMap aK) p.fs.l.length 3=some (.k 1 4,.slM d 4 0 (A.length+p.fs.l.length) (A.length+p.fs.l.length) 1 false,[p.o,.gone,.free,.free,aH (A.flatMap aK++p.fs.l.flatMap aK)]):=by rw[zQ Pw Z fA (Yb _) xav];rfl
    simp only[i133,IC.sub,V0,seval,af,c1,c2,k1,zh,zl,zq,zB,ha1,ha2];refine hR _ _ _ (.slM d 4 0 (A.length+p.fs.l.length) (A.length+p.fs.l.length) 1 false) (.inr ⟨3,by grind,by grind,by grind⟩) bS fun t' O' ht=>?_;exact xa2
  .skip;have hq:Q.length≠0:=fun h=>hQ (EC h);by_cases hC:p.fs.l=[]
   .skip;have k1:bW (look d ah (bI [0,1] 1 [p.o,aH (A.flatMap aK),aH (Q.flatMap aK),.free,.free])) 1 (.slM d 2 0 Q.length Q.length 1 false)=some (Q.flatMap aK,Q.length):=by
     exact xbx
    have ha1:aY d 1 (look d ah (bI [0,1] 1 [p.o,aH (A.flatMap aK),aH (Q.flatMap aK),.free,.free])) [p.o,aH (A.flatMap aK),aH (Q.flatMap aK),.free,.free] 1 (.slM d 1 0 A.length A.length 1 false) (Q.flatMap aK) Q.length 2=some (.k 1 3,.slM d 3 0 (A.length+Q.length) (A.length+Q.length) 1 false,[p.o,.gone,aH (Q.flatMap aK),aH (A.flatMap aK++Q.flatMap aK),.free]):=by rw[zQ hq Z fA (Yb _) xav];rfl
    have ha2:∀(lk:Nat->Nat->Option aP) aa,aY d 1 lk aa 1 (.slM d 3 0 (A.length+Q.length) (A.length+Q.length) 1 false) (p.fs.l.flatMap aK) p.fs.l.length 3=some (.r,.slM d 3 0 (A.length+Q.length) (A.length+Q.length) 1 false,aa):=fun lk aa=>by rw[(show p.fs.l.length=0 by grind)];rfl
    simp only[i133,IC.sub,V0,seval,af,(fun aJ=>o0 hA aJ _ rfl:∀ aJ,aL aO S m d ah aJ [p.o,.free,.free,.free,.free] 1 132 [.agg [p.ns.v,p.az.v,p.fs.v],.bool false]=some (.a,.slM d 1 0 A.length A.length 1 false,[p.o,aH (A.flatMap aK),.free,.free,.free])),(fun aJ=>o1 hQ aJ _ rfl:∀ aJ,aL aO S m d ah aJ [p.o,aH (A.flatMap aK),.free,.free,.free] 2 132 [.agg [p.ns.v,p.az.v,p.fs.v],.bool true]=some (.a,.slM d 2 0 Q.length Q.length 1 false,[p.o,aH (A.flatMap aK),aH (Q.flatMap aK),.free,.free])),k1,zh,zl,zq,zB,ha1,ha2];refine⟨by rfl ,?_⟩;simp only[V0,seval];refine hR _ _ _ (.slM d 3 0 (A.length+Q.length) (A.length+Q.length) 1 false) (.inr ⟨2,by grind,by grind,by grind⟩) bS fun t' O' ht=>?_;exact xa2
   .skip;have k1:bW (look d ah (bI [0,1] 1 [p.o,aH (A.flatMap aK),aH (Q.flatMap aK),.free,.free])) 1 (.slM d 2 0 Q.length Q.length 1 false)=some (Q.flatMap aK,Q.length):=by
     exact xbx
    have ha1:aY d 1 (look d ah (bI [0,1] 1 [p.o,aH (A.flatMap aK),aH (Q.flatMap aK),.free,.free])) [p.o,aH (A.flatMap aK),aH (Q.flatMap aK),.free,.free] 1 (.slM d 1 0 A.length A.length 1 false) (Q.flatMap aK) Q.length 2=some (.k 1 3,.slM d 3 0 (A.length+Q.length) (A.length+Q.length) 1 false,[p.o,.gone,aH (Q.flatMap aK),aH (A.flatMap aK++Q.flatMap aK),.free]):=by rw[zQ hq Z fA (Yb _) xav];rfl
    have ha2:aY d 1 (look d ah (bI [0,1,2] 1 [p.o,.gone,aH (Q.flatMap aK),aH (A.flatMap aK++Q.flatMap aK),.free])) [p.o,.gone,aH (Q.flatMap aK),aH (A.flatMap aK++Q.flatMap aK),.free] 1 (.slM d 3 0 (A.length+Q.length) (A.length+Q.length) 1 false) (p.fs.l.flatMap aK) p.fs.l.length 3=some (.k 3 4,.slM d 4 0 ((A.length+Q.length)+p.fs.l.length) ((A.length+Q.length)+p.fs.l.length) 1 false,[p.o,.gone,aH (Q.flatMap aK),.gone,aH ((A.flatMap aK++Q.flatMap aK)++p.fs.l.flatMap aK)]):=by rw[zQ (fun h=>hC (EC h)) Z fAQ (Yb _) xav];rfl
    simp only[i133,IC.sub,V0,seval,af,(fun aJ=>o0 hA aJ _ rfl:∀ aJ,aL aO S m d ah aJ [p.o,.free,.free,.free,.free] 1 132 [.agg [p.ns.v,p.az.v,p.fs.v],.bool false]=some (.a,.slM d 1 0 A.length A.length 1 false,[p.o,aH (A.flatMap aK),.free,.free,.free])),(fun aJ=>o1 hQ aJ _ rfl:∀ aJ,aL aO S m d ah aJ [p.o,aH (A.flatMap aK),.free,.free,.free] 2 132 [.agg [p.ns.v,p.az.v,p.fs.v],.bool true]=some (.a,.slM d 2 0 Q.length Q.length 1 false,[p.o,aH (A.flatMap aK),aH (Q.flatMap aK),.free,.free])),k1,zh,zl,zq,zB,ha1,ha2];refine⟨by rfl ,?_⟩;simp only[V0,seval];refine hR _ _ _ (.slM d 4 0 ((A.length+Q.length)+p.fs.l.length) ((A.length+Q.length)+p.fs.l.length) 1 false) (.inr ⟨3,by simp[*],by grind,M⟩) bS fun t' O' ht=>?_;exact xa2
end
def kT(ns:List Nd)(s t:Sp):Bool:=bif s.id==t.id then iH s t else gC ns s t
def jT(ns:List Nd)(l:List Rg):Bool:=!(l.zipIdx.any fun ti=>!eS ns ti.1.sp||(l.take ti.2).any fun s=>!kT ns s.sp ti.1.sp)
theorem XL{p:Pn}(hv:∀ a∈p.az.l,a.via.l.length<=1000){s:Rg}(h:s∈lM p):s.k<s.n/\s.n<=1000000:=by let⟨a,ha,hs⟩:=oQ.1 h;unfold jR at hs;obtain⟨k,hk,rfl⟩:=kO.1 hs;have:=vU.1 hk;have:=zcl (p:=p) (hv a ha);grind
theorem Mk(hS:bk S)(p:Pn)(hv:∀ a∈p.az.l,a.via.l.length<=1000)(ha:p.az.l.length<=1000):∃ N,aM S N 137 [.agg p.c] (.bool (jT p.ns.l (lM p))):=by
 let⟨N0,h0⟩:=U6 hS p hv ha;have hok:∀ s∈lM p,s.k<s.n/\s.n<=1000000:=fun s=>XL hv;have hlen:(lM p).length<=1001000:=xep
 have pz:=zM Rg.aV (lM p) (zd1 hv ha);generalize bZ Rg.aV (lM p) (zd1 hv ha)=q at h0 pz;rw[←pz]at hok hlen ⊢;refine⟨N0+p.ns.l.length+2*q.l.length+60,zg (i:=i137) (hS _ _ M M M M) rfl rfl (bP rfl) (N0+p.ns.l.length+2*q.l.length+59) Z zk fun m hm d ah t af=>?_⟩;simp[slotsOf,za,zb,i137,Pn.c]at af;have c0:=h0 m Z;have RZ:=q.eZ;have cl:∀ s:Rg,s∈q.l->∀ dd ah aJ aa i,aL aO S m dd ah aJ aa i 168 [.agg [p.ns.v,p.az.v,p.fs.v],.agg s.c]=some (.r,.bool (eS p.ns.l s.sp),aa):=fun s hs dd ah aJ aa i=>Rl hS p s (hok s hs) m Z dd ah aJ aa i;have cj:∀ s u:Rg,∀ dd ah aJ aa i,aL aO S m dd ah aJ aa i 170 [.agg [p.ns.v,p.az.v,p.fs.v],.agg s.c,.agg u.c]=some (.r,.bool (gC p.ns.l s.sp u.sp),aa):=fun s u dd ah aJ aa i=>Mm hS p s u m Z dd ah aJ aa i;simp[Pn.c]at c0;have iS:∀ y z:Int,(y != z)=!(y==z):=fun y z=>rfl;simp[i137,V0,seval,af,c0];refine zn (fun jj st=>∃(i:Nat)(O:aS),q.l.length-i<=jj/\i<=q.l.length/\(q.l.zipIdx.take i).any (fun ti=>!eS p.ns.l ti.1.sp||(q.l.take ti.2).any fun s=>!kT p.ns.l s.sp ti.1.sp)=false/\st.aa=p.o::O/\aN 79 st.t [(1,.ptrM d 0 0),(3,q.v),(4,iv i)]) q.l.length Z ⟨0,_,Z,Z,M,rfl,by simp[V0,seval,af,cZ]⟩ ?_;clear af;rintro jj ⟨t,bJ⟩ KA ⟨i,O,hjj,hi,ha2,rfl,af⟩ bp bK bQ;simp[za,zb,zf]at af;by_cases h:i<q.l.length
 .have hx:q.l[i]?=some q.l[i]:=dw h;have tL:q.l[i]∈q.l:=gQ h;generalize q.l[i]=x at hx tL;have hxz:q.l.zipIdx[i]?=some (x,i):=by grind
  have hrd:bB (q.l.flatMap Rg.c) (i*12) 12=some x.c:=(zd Rg.aV 0 12 hx Z).trans rfl;have TU:bB (q.l.flatMap Rg.c) (i*12) 1=some [aB x.a.id]:=(zd Rg.aV 0 1 hx Z).trans rfl;have cx:=cl x tL;have hmk:∀ s:Rg,ql true s.c=some (.agg s.c):=fun s=>rfl;cases hal:eS p.ns.l x.sp
  .have tN:jT p.ns.l q.l=false:=by unfold jT;grind
   simp[V0,seval,af,h,zc q h,hrd,hmk,cx,hal];refine bQ _ ?_;simp[V0,seval,af,tN]
  .simp[V0,seval,af,h,zc q h,hrd,hmk,cx,hal];refine zn (fun jj st=>∃(k:Nat)(O:aS),i-k<=jj/\k<=i/\(q.l.take k).any (fun s=>!kT p.ns.l s.sp x.sp)=false/\st.aa=p.o::O/\aN 79 st.t [(1,.ptrM d 0 0),(3,q.v),(4,iv i),(5,iv k)]) i Z ⟨0,_,Z,Z,M,rfl,by simp[V0,seval,af,cZ]⟩ ?_;clear af;rintro jj2 ⟨t,bJ⟩ KB ⟨k,O,hjk,hk,hb,rfl,af⟩ gJ jL kP;simp[za,zb,zf]at af;by_cases h2:k<i
   .have lz:k<q.l.length:=Z;have hy:q.l[k]?=some q.l[k]:=dw lz;have hym:q.l[k]∈q.l:=gQ lz;generalize q.l[k]=y at hy hym;have r7:bB (q.l.flatMap Rg.c) (k*12) 12=some y.c:=(zd Rg.aV 0 12 hy Z).trans rfl;have TQ:bB (q.l.flatMap Rg.c) (k*12) 1=some [aB y.a.id]:=(zd Rg.aV 0 1 hy Z).trans rfl;have hwk:=zt k;have cpp:=(fun s u hs hu dd ah aJ aa i=>Rk hS s u (hok s hs) (hok u hu) m Z dd ah aJ aa i) y x hym tL;have cjj:=cj y x;have hit:kT p.ns.l y.sp x.sp=false->jT p.ns.l q.l=false:=fun hp=>by have h9:(q.l.take i).any (fun s=>!kT p.ns.l s.sp x.sp)=true:=yl (q:=fun s:Rg=>!kT p.ns.l s.sp x.sp) (show(q.l.take i)[k]?=some y by grind) (by grind);unfold jT;grind
    have next:kT p.ns.l y.sp x.sp=true->(q.l.take (k+1)).any (fun s=>!kT p.ns.l s.sp x.sp)=false:=fun hp=>zJ hy hb (by grind)
    have TV:kT p.ns.l y.sp x.sp=bif y.a.id==x.a.id then iH y.sp x.sp else gC p.ns.l y.sp x.sp:=rfl
    cases hid:y.a.id==x.a.id
    .rw[hid,bT]at TV;cases hj:gC p.ns.l y.sp x.sp
     .simp only[V0,seval,af,h2,zc q h,zc q lz,hrd,r7,TU,TQ,hmk,iS,hid,cjj,hj];exact xea
     .simp only[V0,seval,af,h2,zc q h,zc q lz,hrd,r7,TU,TQ,hmk,iS,hid,cjj,hj,hwk];exact xfd
    .rw[hid,bV]at TV;cases hj:iH y.sp x.sp
     .simp only[V0,seval,af,h2,zc q h,zc q lz,hrd,r7,TU,TQ,hmk,hid,cpp,hj];exact xea
     .simp only[V0,seval,af,h2,zc q h,zc q lz,hrd,r7,TU,TQ,hmk,iS,hid,cpp,hj,hwk];exact xfd
   .simp[V0,seval,af,h2];refine jL _ _ ?_;simp only[V0,seval,af,(zt i)];have hki:k=i:=Z;subst hki;exact bp _ (q.l.length-(k+1)) Z ⟨k+1,_,Z,Z,zJ hxz ha2 (by grind),rfl,bS⟩
 .have ac1:jT p.ns.l q.l=true:=by unfold jT;rw[fT (by simp_all)]at ha2;grind
  simp[V0,seval,af,h];refine bK _ _ ?_;simp[V0,seval,af,ac1]
def jD(p:Pn)(a:Ac):Bool:=(cT p a.fr).isSome&&(cT p a.to).isSome
def fq(p:Pn)(n:Int):Bool:=ox p.fs.l n||n==0
def BY(p:Pn):Int:=bif p.az.l.any (fun a=>!jD p a)then 7 else bif p.az.l.any (fun a=>!fq p a.l||!fq p a.r)then 12 else bif jT p.ns.l (lM p)then 0 else 11
def KK(p:Pn):Int:=bif !Fl p then 2 else bif lF p.ns.l then 8 else BY p
def jq(p:Pn):Int:=bif mK p||nG p then 3 else bif !qu p then 10 else KK p
theorem La{p:Pn}(h:mK p=false)(h2:nG p=false):p.ns.l.length<=256/\p.az.l.length<=256/\p.fs.l.length<=64/\∀ a∈p.az.l,a.via.l.length<=64:=by simp only[mK,Ez,W9]at h;refine⟨Z,Z,Z,fun a ha=>?_⟩;have:=ES.1 h2 a ha;grind
theorem UE(hS:bk S)(p:Pn)(hl:p.ns.l.length<=256/\p.az.l.length<=256/\p.fs.l.length<=64/\∀ a∈p.az.l,a.via.l.length<=64):∃ N,∀{m d:Nat}{ah:bq},N<=m->∀{K:eU}(t:List IV)(O:aS),aN 79 t [(1,.ptrM d 0 0)] ->
  (∀ t' O',aN 79 t' [(2,aB (BY p))]->K .ret ⟨t',O'⟩) ->
  Ex (aL aO S m) d ah m (i69.body.sub [1,1,1,1,1]) K ⟨t,p.o::O⟩:=by
 let⟨l1,l2,l3,l4⟩:=hl
 obtain⟨N1,hP⟩:=Mk hS p (fun a ha=>by grind) Z
 have Pc:∀ a∈p.az.l,∃ N,∀ m,N<=m->∃(v:IV),∀ d ah aJ aa id,aL aO S m d ah aJ aa id 135 [.agg p.c,.agg a.c]=some (.r,.tuple [v,.bool (jD p a)],aa):=fun a h=>by obtain⟨q',h1,N,h2⟩:=OH hS p a (by grind);exact⟨N,fun m hm=>⟨q'.v,h2 m hm⟩⟩
 let⟨N2,T0⟩:=ED p.az.l Pc
 refine⟨N1+N2+800,fun{m d ah} hm {K} t O af hK=>?_⟩
 simp[za,zb]at af
 have MR:=p.az.eZ
 simp[i69,IC.sub,V0,seval]
 refine zn (fun jj st=>∃(i:Nat)(O:aS),p.az.l.length-i<=jj/\i<=p.az.l.length/\(p.az.l.take i).any (fun a=>!jD p a)=false/\st.aa=p.o::O/\aN 79 st.t [(1,.ptrM d 0 0),(3,iv i)]) p.az.l.length Z ⟨0,_,Z,Z,M,rfl,by simp[V0,seval,af,cZ]⟩ ?_
 clear af
 rintro jj ⟨t,aa⟩ KA ⟨i,O,hjj,hi,ha,rfl,af⟩ bp bK bQ
 simp[za,zb,zf]at af
 by_cases h:i<p.az.l.length
 .have hx:p.az.l[i]?=some p.az.l[i]:=dw h
  let⟨lv,hlc⟩:=T0 _ (gQ h) m Z
  generalize p.az.l[i]=x at hx hlc
  have hrd:bB (p.az.l.flatMap Ac.c) (i*6) 6=some [aB x.id,aB x.fr,aB x.to,x.via.v,aB x.l,aB x.r]:=xa9
  have hw:=zt i
  simp[Pn.c,Ac.c,zf]at hlc
  cases hq:jD p x
  .simp[V0,seval,zc p.az h, *]
   refine bQ _ ?_
   exact hK _ _ (by simp[V0,seval,af,BY,yl (q:=fun a=>!jD p a) hx (by grind),bV])
  .simp only[V0,seval,zc p.az h, *]
   exact bp _ (p.az.l.length-(i+1)) Z ⟨i+1,_,Z,Z,zJ hx ha (by grind),rfl,bS⟩
 .have hn1:p.az.l.any (fun a=>!jD p a)=false:=by grind
  simp[V0,seval,af,h]
  refine bK _ _ ?_
  simp[V0,seval]
  refine zm p.az.l.length (fun i st=>∃(O:aS),(p.az.l.take i).any (fun a=>!fq p a.l||!fq p a.r)=false/\st.aa=p.o::O/\aN 79 st.t [(1,.ptrM d 0 0),(6,iv i)]) Z ⟨_,M,rfl,by simp[V0,seval,af,cZ]⟩ ?_
  clear af ha bp bK bQ O i hi hjj jj h
  rintro i ⟨t,aa⟩ KA hi ⟨O,ha,rfl,af⟩ bp bK bQ
  simp[za,zb,zf]at af
  have cf:∀(z:Int) dd ah aJ aa i,aL aO S m dd ah aJ aa i 136 [.agg [p.ns.v,p.az.v,p.fs.v],aB z]=some (.r,.bool (fq p z),aa):=fun z dd ah aJ aa i=>Vd hS p z m Z dd ah aJ aa i
  by_cases h:i<p.az.l.length
  .obtain⟨x,hx⟩:=fc (l:=p.az.l) (i:=i) h
   have hr4:bB (p.az.l.flatMap Ac.c) (i*6+4) 1=some [aB x.l]:=(zd Ac.aV 4 1 hx Z).trans rfl
   have hr5:bB (p.az.l.flatMap Ac.c) (i*6+5) 1=some [aB x.r]:=(zd Ac.aV 5 1 hx Z).trans rfl
   have hw:=zt i
   cases h1:fq p x.l
   .exact xbj
   .cases h2:fq p x.r
    .exact xbj
    .simp only[V0,seval,zc p.az h, *]
     exact bp Z _ ⟨_,zJ hx ha (by grind),rfl,bS⟩
  .have hn2:p.az.l.any (fun a=>!fq p a.l||!fq p a.r)=false:=by grind
   have c9:=fun dd ah aJ aa i=>hP m Z dd ah aJ aa i
   simp[Pn.c]at c9
   simp[V0,seval,af,h]
   refine bK _ _ ?_
   unfold BY at hK
   rw[hn1,hn2,bT,bT]at hK
   cases hp:jT p.ns.l (lM p)
   .rw[hp]at hK
    simp[V0,seval,af,c9,hp]
    exact hK _ _ (by simp[V0,seval,af,bT])
   .rw[hp]at hK
    simp[V0,seval,af,c9,hp]
    exact hK _ _ (by simp[V0,seval,af,bV])
theorem adv(hS:bk S)(p:Pn)(hl:p.ns.l.length<=256/\p.az.l.length<=256/\p.fs.l.length<=64/\∀ a∈p.az.l,a.via.l.length<=64):∃ N,∀{m d:Nat}{ah:bq},N<=m->∀{K:eU}(t:List IV)(O:aS),aN 79 t [(1,.ptrM d 0 0)] ->
  (∀ t' O',aN 79 t' [(2,aB (KK p))]->K .ret ⟨t',O'⟩) ->
  Ex (aL aO S m) d ah m (i69.body.sub [1,1,1]) K ⟨t,p.o::O⟩:=by
 let⟨N3,h3⟩:=UE hS p hl
 let⟨l1,l2,l3,l4⟩:=hl
 refine⟨N3+2*(p.ns.l.length+p.az.l.length)+p.fs.l.length+(iI p).length+2*p.ns.l.length+60,fun{m d ah} hm {K} t O af hK=>?_⟩
 simp[za,zb]at af
 have c1:=fun dd ah aJ aa i=>(Mj hS p (fun a ha=>by grind) Z Z Z) m Z dd ah aJ aa i
 have c2:=fun dd ah aJ aa i=>(Q7 hS p) m Z dd ah aJ aa i
 simp[Pn.c]at c1 c2
 have h4:=fun(K:eU) t O=>@h3 m d ah Z K t O
 rw[show i69.body.sub [1,1,1]=.seq (i69.body.sub [1,1,1,0]) (.seq (i69.body.sub [1,1,1,1,0]) (i69.body.sub [1,1,1,1,1]))from rfl]
 generalize i69.body.sub [1,1,1,1,1]=B at h4 ⊢
 unfold KK at hK
 cases q1:Fl p
 .rw[q1]at hK
  simp[i69,IC.sub,V0,seval,af,c1,q1]
  exact hK _ _ (by simp[V0,seval,af,bV])
 .rw[q1]at hK
  cases q2:lF p.ns.l
  .rw[q2]at hK
   simp[i69,IC.sub,V0,seval, *]
   exact h4 _ _ _ bS fun t' O' ht'=>hK t' O' ht'
  .rw[q2]at hK
   simp only[i69,IC.sub,V0,seval, *]
   exact hK _ _ (by simp[V0,seval,af,bV,bT])
theorem zaq(hS:bk S)(p:Pn):∃ N,aM S N 69 [.agg p.c] (aB (jq p)):=by
 by_cases hlim:(mK p||nG p)=true
 .refine⟨p.az.l.length+8,zg (i:=i69) (hS _ _ M M M M) rfl rfl (bP rfl) (p.az.l.length+7) Z zp fun m hm d ah t af=>?_⟩;simp[slotsOf,za,zb,i69,Pn.c]at af;have c0:=fun dd ah aJ aa i=>vN hS p m Z dd ah aJ aa i;simp[Pn.c,hlim]at c0;simp[i69,V0,seval,af,c0,jq,hlim,bV]
 .have hlim:(mK p||nG p)=false:=by grind
  have hl:mK p=false/\nG p=false:=by grind
  have F0:=La hl.1 hl.2;let⟨N2,h2⟩:=adv hS p F0;let⟨l1,l2,l3,l4⟩:=F0;refine⟨N2+2000,zg (i:=i69) (hS _ _ M M M M) rfl rfl (bP rfl) (N2+1999) Z zp fun m hm d ah t af=>?_⟩;simp[slotsOf,za,zb,i69,Pn.c]at af;have c0:=fun dd ah aJ aa i=>vN hS p m Z dd ah aJ aa i;simp[Pn.c,hlim]at c0;have hla:(gD p false).length=p.ns.l.length:=by simp[gD]
  have hlb:(gD p true).length=p.az.l.length:=by simp[gD]
  have hR:=fun(K:eU) t O=>@h2 m d ah Z K t O;have C5:qu p=(dz (gD p false)&&(dz (gD p true)&&dz p.fs.l)):=rfl;rw[(show jq p=bif !qu p then 10 else KK p by simp[jq,hlim,bT]),C5]
  rw[show i69.body=.seq (i69.body.sub [0]) (.seq (i69.body.sub [1,0]) (.seq (i69.body.sub [1,1,0]) (i69.body.sub [1,1,1])))from rfl];generalize i69.body.sub [1,1,1]=B at hR ⊢;have n0:=fun(h:gD p false=[]) aJ aa (hid:aa[2]?=some .free)=>zd2 hS p Z Z false h (m:=m) (d:=d) (id:=2) (ah:=ah) (aJ:=aJ) (aa:=aa) Z hid;have n1:=fun(h:gD p true=[]) aJ aa (hid:aa[4]?=some .free)=>zd2 hS p Z Z true h (m:=m) (d:=d) (id:=4) (ah:=ah) (aJ:=aJ) (aa:=aa) Z hid;have o0:=fun(h:gD p false≠[]) aJ aa (hid:aa[2]?=some .free)=>zd3 hS p Z Z false h (m:=m) (d:=d) (id:=2) (ah:=ah) (aJ:=aJ) (aa:=aa) Z hid;have o1:=fun(h:gD p true≠[]) aJ aa (hid:aa[4]?=some .free)=>zd3 hS p Z Z true h (m:=m) (d:=d) (id:=4) (ah:=ah) (aJ:=aJ) (aa:=aa) Z hid;generalize gD p false=A at *;generalize gD p true=Q at *;have f0:∀ dd ah aJ aa i,aL aO S m dd ah aJ aa i 131 [p.fs.v]=some (.r,.bool (dz p.fs.l),aa):=fun dd ah aJ aa i=>G0 hS p.fs m Z dd ah aJ aa i;have az:∀ dd ah aJ aa i,aL aO S m dd ah aJ aa i 131 [.nilsl]=some (.r,.bool true,aa):=fun dd ah aJ aa i=>U3 hS Z;have aA:∀ aJ aa i,aJ[2]?=some (aH (A.flatMap aK))->aL aO S m d ah aJ aa i 131 [.slM d 2 0 A.length A.length 1 false]=some (.r,.bool (dz A),aa):=fun aJ aa i h=>JF hS Z Z h;have aQ:∀ aJ aa i,aJ[4]?=some (aH (Q.flatMap aK))->aL aO S m d ah aJ aa i 131 [.slM d 4 0 Q.length Q.length 1 false]=some (.r,.bool (dz Q),aa):=fun aJ aa i h=>JF hS Z Z h;simp only[Pn.c]at n0 n1 o0 o1 hR;by_cases hA:A=[]
  .skip;by_cases hQ:Q=[]
   .skip;have c1:∀ aJ,aL aO S m d ah aJ [p.o,.free,.free,.free,.free,.free,.free] 2 132 [.agg [p.ns.v,p.az.v,p.fs.v],.bool false]=some (.r,.nilsl,[p.o,.free,.free,.free,.free,.free,.free]):=fun aJ=>n0 hA aJ _ rfl;have a1:dz A=true:=by rw[hA];rfl
    have c2:∀ aJ,aL aO S m d ah aJ [p.o,.free,.free,.free,.free,.free,.free] 4 132 [.agg [p.ns.v,p.az.v,p.fs.v],.bool true]=some (.r,.nilsl,[p.o,.free,.free,.free,.free,.free,.free]):=fun aJ=>n1 hQ aJ _ rfl;have a2:dz Q=true:=by grind
    cases hx:dz p.fs.l
    .skip;simp only[i69,IC.sub,V0,seval,af,c0,c1,c2,a1,a2,az,f0,hx,nr,bV]
    .skip;simp only[i69,IC.sub,V0,seval,af,c0,c1,c2,a1,a2,az,f0,hx,bT];refine hR _ _ _ bS fun t' O' ht=>?_;simp[za,zb]at ht;simp[V0,seval,ht]
   .skip;have c1:∀ aJ,aL aO S m d ah aJ [p.o,.free,.free,.free,.free,.free,.free] 2 132 [.agg [p.ns.v,p.az.v,p.fs.v],.bool false]=some (.r,.nilsl,[p.o,.free,.free,.free,.free,.free,.free]):=fun aJ=>n0 hA aJ _ rfl;have a1:dz A=true:=by rw[hA];rfl
    have c2:∀ aJ,aL aO S m d ah aJ [p.o,.free,.free,.free,.free,.free,.free] 4 132 [.agg [p.ns.v,p.az.v,p.fs.v],.bool true]=some (.a,.slM d 4 0 Q.length Q.length 1 false,[p.o,.free,.free,.free,aH (Q.flatMap aK),.free,.free]):=fun aJ=>o1 hQ aJ _ rfl;have a2:∀ aa i,aL aO S m d ah [p.o,.free,.free,.free,aH (Q.flatMap aK),.free,.free] aa i 131 [.slM d 4 0 Q.length Q.length 1 false]=some (.r,.bool (dz Q),aa):=fun aa i=>aQ _ aa i rfl;cases hw:dz Q
    .skip;simp only[i69,IC.sub,V0,seval,af,c0,c1,c2,a1,a2,az,hw,dZ,nr,bV]
    .skip;cases hx:dz p.fs.l
     .skip;simp only[i69,IC.sub,V0,seval,af,c0,c1,c2,a1,a2,az,f0,hw,hx,nr,bV]
     .skip;simp only[i69,IC.sub,V0,seval,af,c0,c1,c2,a1,a2,az,f0,hw,hx,bT];refine hR _ _ _ bS fun t' O' ht=>?_;simp[za,zb]at ht;simp[V0,seval,ht]
  .skip;by_cases hQ:Q=[]
   .skip;have c1:∀ aJ,aL aO S m d ah aJ [p.o,.free,.free,.free,.free,.free,.free] 2 132 [.agg [p.ns.v,p.az.v,p.fs.v],.bool false]=some (.a,.slM d 2 0 A.length A.length 1 false,[p.o,.free,aH (A.flatMap aK),.free,.free,.free,.free]):=fun aJ=>o0 hA aJ _ rfl;have a1:∀ aa i,aL aO S m d ah [p.o,.free,aH (A.flatMap aK),.free,.free,.free,.free] aa i 131 [.slM d 2 0 A.length A.length 1 false]=some (.r,.bool (dz A),aa):=fun aa i=>aA _ aa i rfl;have c2:∀ aJ,aL aO S m d ah aJ [p.o,.free,aH (A.flatMap aK),.free,.free,.free,.free] 4 132 [.agg [p.ns.v,p.az.v,p.fs.v],.bool true]=some (.r,.nilsl,[p.o,.free,aH (A.flatMap aK),.free,.free,.free,.free]):=fun aJ=>n1 hQ aJ _ rfl;have a2:dz Q=true:=by rw[hQ];rfl
    cases hu:dz A
    .skip;simp only[i69,IC.sub,V0,seval,af,c0,c1,a1,a2,hu,dZ,bV]
    .skip;cases hx:dz p.fs.l
     .skip;simp only[i69,IC.sub,V0,seval,af,c0,c1,c2,a1,a2,az,f0,hu,hx,nr,bV]
     .skip;simp only[i69,IC.sub,V0,seval,af,c0,c1,c2,a1,a2,az,f0,hu,hx,bT];refine hR _ _ _ bS fun t' O' ht=>?_;simp[za,zb]at ht;simp[V0,seval,ht]
   .skip;have c1:∀ aJ,aL aO S m d ah aJ [p.o,.free,.free,.free,.free,.free,.free] 2 132 [.agg [p.ns.v,p.az.v,p.fs.v],.bool false]=some (.a,.slM d 2 0 A.length A.length 1 false,[p.o,.free,aH (A.flatMap aK),.free,.free,.free,.free]):=fun aJ=>o0 hA aJ _ rfl;have a1:∀ aa i,aL aO S m d ah [p.o,.free,aH (A.flatMap aK),.free,.free,.free,.free] aa i 131 [.slM d 2 0 A.length A.length 1 false]=some (.r,.bool (dz A),aa):=fun aa i=>aA _ aa i rfl;have c2:∀ aJ,aL aO S m d ah aJ [p.o,.free,aH (A.flatMap aK),.free,.free,.free,.free] 4 132 [.agg [p.ns.v,p.az.v,p.fs.v],.bool true]=some (.a,.slM d 4 0 Q.length Q.length 1 false,[p.o,.free,aH (A.flatMap aK),.free,aH (Q.flatMap aK),.free,.free]):=fun aJ=>o1 hQ aJ _ rfl;have a2:∀ aa i,aL aO S m d ah [p.o,.free,aH (A.flatMap aK),.free,aH (Q.flatMap aK),.free,.free] aa i 131 [.slM d 4 0 Q.length Q.length 1 false]=some (.r,.bool (dz Q),aa):=fun aa i=>aQ _ aa i rfl;cases hu:dz A
    .skip;simp only[i69,IC.sub,V0,seval,af,c0,c1,a1,hu,dZ,bV]
    .skip;cases hw:dz Q
     .skip;simp only[i69,IC.sub,V0,seval,af,c0,c1,c2,a1,a2,hu,hw,dZ,nr,bV]
     .skip;cases hx:dz p.fs.l
      .skip;simp only[i69,IC.sub,V0,seval,af,c0,c1,c2,a1,a2,f0,hu,hw,hx,nr,bV]
      .skip;simp only[i69,IC.sub,V0,seval,af,c0,c1,c2,a1,a2,f0,hu,hw,hx,bT];refine hR _ _ _ bS fun t' O' ht=>?_;simp[za,zb]at ht;simp[V0,seval,ht]
def Bf{H:Type}(f:H->H->Bool):List H->List H->Bool
 |[],[]=>true
 |x::l,y::l'=>f x y&&Bf f l l'
 |_,_=>false
def Lz(f:H->H->Bool)(l l':List H)(k:Nat):Prop:=∀ i x y,i<k->l[i]?=some x->l'[i]?=some y->f x y=true
variable {i:Nat}{l l':List H}{x y:H}
section
variable {f:H->H->Bool}
theorem Ai:∀{l l':List H},Bf f l l'=true->l.length=l'.length
 |[],[],_=>rfl
 |x::l,y::l',h=>by rw[Bf,kE]at h;rw[fB,fB,Ai h.2]
 |[],_::_,h=>by cases h
 |_::_,[],h=>by cases h
theorem Ak:∀{l l':List H},l.length=l'.length->Lz f l l' l.length->Bf f l l'=true
 |[],[],_,_=>rfl
 |x::l,y::l',hl,h=>by rw[Bf,kE];refine⟨h 0 x y M rfl rfl,Ak (by grind) fun i u v hi hu hv=>h (i+1) u v (by grind) (by grind) (by grind)⟩
 |[],_::_,hl,_=>by grind
 |_::_,[],hl,_=>by grind
theorem Aj:∀{l l':List H}{i:Nat}{x y:H},l[i]?=some x->l'[i]?=some y->f x y=false->Bf f l l'=false
 |a::l,b::l',0,x,y,hx,hy,h=>by simp[rH,iw]at hx hy;subst hx hy;rw[Bf,h,dZ]
 |a::l,b::l',i+1,x,y,hx,hy,h=>by simp[rG]at hx hy;rw[Bf,Aj hx hy h,nr]
 |[],_,_,_,_,hx,_,_=>by grind
 |_::_,[],_,_,_,_,hy,_=>by rfl
theorem vn(h:Lz f l l' i)(hx:l[i]?=some x)(hy:l'[i]?=some y)(he:f x y=true):Lz f l l' (i+1):=fun j u v hj hu hv=>by
 by_cases hji:j=i
 .grind
 .exact h j u v Z hu hv
def Qe:Lz f l l' 0:=fun i _ _ h=>absurd h (zlq _)
end
def xO(x y:Int):Bool:=x==y
def L9(z:Int)(w:Int):(z != w)=!(z==w):=rfl
theorem aa4(hS:bk S)(a b:aR 1 aK):aM S (a.l.length+4) 98 [a.v,b.v] (.bool (Bf xO a.l b.l)):=by
 refine zg (i:=i98) (hS _ _ M M M M) rfl rfl (bP rfl) (a.l.length+3) Z zk fun m hm d ah t af=>?_;simp[V2,i98]at af;have MR:=a.eZ;have hbf:=b.eZ;have q1:(true != false)=true:=rfl;have q2:(true != true)=false:=rfl;cases hlen:((a.l.length:Nat):Int)==((b.l.length:Nat):Int)
 .have hf:Bf xO a.l b.l=false:=by rw[←tZ];intro h;rw[Ai h]at hlen;grind
  simp[i98,V0,Xa,Xe,reduceCtorEq,af,L9,hlen,hf]
 .have hle:a.l.length=b.l.length:=by grind
  simp[i98,V0,Xa,Xe,reduceCtorEq,af,L9,hlen];refine zm a.l.length (fun i st=>∃(O:aS),Lz xO a.l b.l i/\st.aa=O/\aN 26 st.t [(0,a.v),(1,b.v),(12,iv (a.l.length:Nat)),(13,iv i)]) Z ⟨_,Qe,rfl,by simp[V0,Xa,Xe,reduceCtorEq,af,cZ]⟩ ?_;clear af;rintro i ⟨t,aa⟩ KA hi ⟨O,ha,rfl,af⟩ bp bK bQ;simp[za,zb,zf]at af;by_cases h:i<a.l.length
  .have h2:i<b.l.length:=Z;obtain⟨x,hx⟩:=fc (l:=a.l) (i:=i) h;obtain⟨y,hy⟩:=fc (l:=b.l) (i:=i) h2;have gE:bB (a.l.flatMap aK) (i*1) 1=some [aB x]:=(zd ze 0 1 hx Z).trans rfl;have r7:bB (b.l.flatMap aK) (i*1) 1=some [aB y]:=(zd ze 0 1 hy Z).trans rfl;have hw:=zt i;cases hq:xO x y
   .have tM:=hq;unfold xO at tM;simp only[V0,Xa,Xe,reduceCtorEq,RN,zc a h,zc b h2,L9, *];refine bQ _ ?_;simp[V0,Xa,af,Aj hx hy hq]
   .unfold xO at hq;simp only[V0,Xa,Xe,reduceCtorEq,RN,zc a h,zc b h2,L9, *];exact xeq
  .exact xdi
theorem aa3(hS:bk S)(a b:aR 2 Pt.c):aM S (a.l.length+4) 81 [a.v,b.v] (.bool (Bf dR a.l b.l)):=by
 refine zg (i:=i81) (hS _ _ M M M M) rfl rfl (bP rfl) (a.l.length+3) Z zk fun m hm d ah t af=>?_;simp[V2,i81]at af;have MR:=a.eZ;have hbf:=b.eZ;have q1:(true != false)=true:=rfl;have q2:(true != true)=false:=rfl;cases hlen:((a.l.length:Nat):Int)==((b.l.length:Nat):Int)
 .have hf:Bf dR a.l b.l=false:=by rw[←tZ];intro h;rw[Ai h]at hlen;grind
  simp[i81,V0,Xa,Xe,reduceCtorEq,af,L9,hlen,hf]
 .have hle:a.l.length=b.l.length:=by grind
  simp[i81,V0,Xa,Xe,reduceCtorEq,af,L9,hlen];refine zm a.l.length (fun i st=>∃(O:aS),Lz dR a.l b.l i/\st.aa=O/\aN 26 st.t [(0,a.v),(1,b.v),(12,iv (a.l.length:Nat)),(13,iv i)]) Z ⟨_,Qe,rfl,by simp[V0,Xa,Xe,reduceCtorEq,af,cZ]⟩ ?_;clear af;rintro i ⟨t,aa⟩ KA hi ⟨O,ha,rfl,af⟩ bp bK bQ;simp[za,zb,zf]at af;by_cases h:i<a.l.length
  .have h2:i<b.l.length:=Z;obtain⟨x,hx⟩:=fc (l:=a.l) (i:=i) h;obtain⟨y,hy⟩:=fc (l:=b.l) (i:=i) h2;have gE:bB (a.l.flatMap Pt.c) (i*2) 2=some [aB x.x,aB x.y]:=(zd Pt.aV 0 2 hx Z).trans rfl;have r7:bB (b.l.flatMap Pt.c) (i*2) 2=some [aB y.x,aB y.y]:=(zd Pt.aV 0 2 hy Z).trans rfl;have hw:=zt i;cases hq:dR x y
   .have tM:=hq;unfold dR at tM;simp[V0,Xa,Xe,reduceCtorEq,RN,zc a h,zc b h2,zR, *];refine bQ _ ?_;simp[V0,Xa,af,Aj hx hy hq]
   .unfold dR at hq;simp only[V0,Xa,Xe,reduceCtorEq,RN,zc a h,zc b h2,zR, *];exact xeq
  .exact xdi
def dkN:DK:=⟨3,[aB 0,aB 0,aB 0],76,77,78,34⟩
def dkA:DK:=⟨6,[aB 0,aB 0,aB 0,.nilsl,aB 0,aB 0],87,88,89,36⟩
def dkF:DK:=⟨5,[aB 0,aB 0,aB 0,.str (bs []),.nilsl],100,101,102,38⟩
variable {f k8:FuncId}
section
def Aq(hS:bk S):DkOK S dkN:=xcx
def Av(hS:bk S):DkOK S dkA:=xcx
def Au(hS:bk S):DkOK S dkF:=xcx
def MS:List (FuncId×FuncId×(Nd->Nd->Bool)):=[(74,75,fun x y=>(x.at'.x==y.at'.x)&&(x.at'.y==y.at'.y))]
def R8:List (FuncId×FuncId×(Ac->Ac->Bool)):=[(80,82,fun x y=>(x.fr==y.fr)&&((x.to==y.to)&&Bf dR x.via.l y.via.l)),(83,84,fun x y=>x.l==y.l),(85,86,fun x y=>x.r==y.r)]
def R7:List (FuncId×FuncId×(Ft->Ft->Bool)):=[(91,92,fun x y=>x.kind==y.kind),(93,94,fun x y=>x.cls==y.cls),(95,96,fun x y=>x.name.1.toList==y.name.1.toList),(97,99,fun x y=>Bf xO x.parts.l y.parts.l)]
def xM(n:Int)(k8:FuncId)(F:List (FuncId×FuncId×(H->H->Bool))):IV:=eP n k8 (F.flatMap fun f=>[.fn f.1 [] [],.fn f.2.1 [] []]) F.length true
def zfr{a b:List IV}:(IV.fn f a b).cells=[.fn f a b]:=aI
def ab7(a b:IV):rep [a,b] 1=[a,b]:=rfl
def ab6(a b:IV):rep [a,b] 3=[a,b,a,b,a,b]:=rfl
def ab5(a b:IV):rep [a,b] 4=[a,b,a,b,a,b,a,b]:=rfl
theorem fne(b:Bool):(false != b)=b:=by cases b<;>rfl
theorem PJ:Fz 1 (.fn f [] []):=fun m hm lv aa=>by obtain⟨m,rfl⟩:=gv m 1;rfl
theorem FR{n:Int}{F:List (FuncId×FuncId×(H->H->Bool))}:Fz 3 (xM n k8 F):=by
 refine PD fun x hx=>?_;simp[eG,gm,gw]at hx;rcases hx with rfl|rfl|rfl
 .exact fun m hm lv aa=>zp m Z lv aa
 .exact fun m hm lv aa=>PJ m Z lv aa
 .refine xW fun x hx=>?_;obtain⟨a,_,h⟩:=oQ.1 hx;simp[eG,gm,gw]at h;rcases h with rfl|rfl<;>exact PJ
theorem uN(hS:bk S):aM S 10 33 [] (xM 1 73 MS):=by refine zr (hS _ _ M M M M) rfl rfl (bP rfl) 9 fun m hm d ah t af=>?_;simp[V2,Xb,i33]at af;simp only[i33,V0,seval,af,zfr,Zz,ab7,yj];exact⟨_,rfl,FR (F:=MS) m Z _ _⟩
theorem D4(hS:bk S):aM S 10 35 [] (xM 2 79 R8):=by refine zr (hS _ _ M M M M) rfl rfl (bP rfl) 9 fun m hm d ah t af=>?_;simp[V2,Xb,i35]at af;simp only[i35,V0,seval,af,zfr,Zz,ab6,yj];exact⟨_,rfl,FR (F:=R8) m Z _ _⟩
theorem vg(hS:bk S):aM S 10 37 [] (xM 3 90 R7):=by refine zr (hS _ _ M M M M) rfl rfl (bP rfl) 9 fun m hm d ah t af=>?_;simp[V2,Xb,i37]at af;simp only[i37,V0,seval,af,zfr,Zz,ab5,yj];exact⟨_,rfl,FR (F:=R7) m Z _ _⟩
theorem IS(hS:bk S)(x:Nd):aM S 4 73 [.agg x.c] (aB x.id):=by refine zg (hS _ _ M M M M) rfl rfl (bP rfl) 3 Z zp fun m hm d ah t af=>?_;simp[V2,Xb,i73,Nd.c,zf]at af;simp[i73,V0,seval,af]
theorem IW(hS:bk S)(x:Ac):aM S 4 79 [.agg x.c] (aB x.id):=by refine zg (hS _ _ M M M M) rfl rfl (bP rfl) 3 Z zp fun m hm d ah t af=>?_;simp[V2,Xb,i79,Ac.c,zf]at af;simp[i79,V0,seval,af]
theorem IU(hS:bk S)(x:Ft):aM S 4 90 [.agg x.c] (aB x.id):=by refine zg (hS _ _ M M M M) rfl rfl (bP rfl) 3 Z zp fun m hm d ah t af=>?_;simp[V2,Xb,i90,Ft.c,zf]at af;simp[i90,V0,seval,af]
def P9(a b c e:Int):eR [1,1] [aB a,aB b] [aB c,aB e]=some ((a==c)&&(b==e)):=xc7
theorem AK(hS:bk S)(x y:Nd):aM S 60000 74 [.agg x.c,.agg y.c] (.bool ((x.at'.x==y.at'.x)&&(x.at'.y==y.at'.y))):=by refine zg (hS _ _ M M M M) rfl rfl (bP rfl) 59999 Z zk fun m hm d ah t af=>?_;simp[V2,Xb,i74,Nd.c,zf]at af;simp[i74,V0,seval,af,P9,fne]
theorem zcm(hS:bk S)(x y:Ac)(hv:x.via.l.length<=50000):aM S 60000 80 [.agg x.c,.agg y.c] (.bool ((x.fr==y.fr)&&((x.to==y.to)&&Bf dR x.via.l y.via.l))):=by
 refine zg (hS _ _ M M M M) rfl rfl (bP rfl) 59999 Z zk fun m hm d ah t af=>?_;simp[V2,Xb,i80,Ac.c,zf]at af;cases h1:x.fr==y.fr
 .simp only[i80,V0,seval,af,h1,dZ]
 .cases h2:x.to==y.to
  .simp only[i80,V0,seval,af,h1,h2,dZ]
  .simp only[i80,V0,seval,af,h1,h2,(fun d ah aJ aa id=>aa3 hS x.via y.via m Z d ah aJ aa id)]
theorem zcn(hS:bk S)(x y:Ac):aM S 60000 83 [.agg x.c,.agg y.c] (.bool (x.l==y.l)):=by refine zg (hS _ _ M M M M) rfl rfl (bP rfl) 59999 Z zk fun m hm d ah t af=>?_;simp[V2,Xb,i83,Ac.c,zf]at af;simp[i83,V0,seval,af]
theorem zar(hS:bk S)(x y:Ac):aM S 60000 85 [.agg x.c,.agg y.c] (.bool (x.r==y.r)):=by refine zg (hS _ _ M M M M) rfl rfl (bP rfl) 59999 Z zk fun m hm d ah t af=>?_;simp[V2,Xb,i85,Ac.c,zf]at af;simp[i85,V0,seval,af]
theorem zco(hS:bk S)(x y:Ft):aM S 60000 91 [.agg x.c,.agg y.c] (.bool (x.kind==y.kind)):=by refine zg (hS _ _ M M M M) rfl rfl (bP rfl) 59999 Z zk fun m hm d ah t af=>?_;simp[V2,Xb,i91,Ft.c,zf]at af;simp[i91,V0,seval,af]
theorem zfs(hS:bk S)(x y:Ft):aM S 60000 93 [.agg x.c,.agg y.c] (.bool (x.cls==y.cls)):=by refine zg (hS _ _ M M M M) rfl rfl (bP rfl) 59999 Z zk fun m hm d ah t af=>?_;simp[V2,Xb,i93,Ft.c,zf]at af;simp[i93,V0,seval,af]
theorem zcp(hS:bk S)(x y:Ft):aM S 60000 95 [.agg x.c,.agg y.c] (.bool (x.name.1.toList==y.name.1.toList)):=by refine zg (hS _ _ M M M M) rfl rfl (bP rfl) 59999 Z zk fun m hm d ah t af=>?_;simp[V2,Xb,i95,Ft.c,zf]at af;simp[i95,V0,seval,af,mE]
theorem zas(hS:bk S)(x y:Ft)(hv:x.parts.l.length<=50000):aM S 60000 97 [.agg x.c,.agg y.c] (.bool (Bf xO x.parts.l y.parts.l)):=by refine zg (hS _ _ M M M M) rfl rfl (bP rfl) 59999 Z zk fun m hm d ah t af=>?_;simp[V2,Xb,i97,Ft.c,zf]at af;simp[i97,V0,seval,af,(fun d ah aJ aa id=>aa4 hS x.parts y.parts m Z d ah aJ aa id)]
end
theorem Zb{aa:aS}(h:b<n0∨vis.contains (b-n0)=true):look d ah (bI vis n0 aa) d b=aa[b]?:=by unfold look;rw[bU rfl,zu];grind
variable {Y:aP}
section
variable {g:H->List IV} 
theorem JM(hs:∀ a,(g a).length=sz){a b:aP}{qw:IV}(h:bE g sz d 2 J lv xs)(hx:xs.length+ys.length<=1073741824)(hsc:(ys.flatMap g).all IV.scalar=true)
  (h2:(ys=[]/\qw=.nilsl)∨(ys≠[]/\qw=.slM d (J.length+1+1+1) 0 ys.length ys.length sz false/\Y=aH (ys.flatMap g))) :
  (bW (look d ah (bI [0,1] (J.length+1+1) (a::b::(J++[.free,Y,.free])))) sz qw=some (ys.flatMap g,ys.length)) /\
  ∃ e cH J2,aY d (J.length+1+1) (look d ah (bI [0,1] (J.length+1+1) (a::b::(J++[.free,Y,.free])))) (a::b::(J++[.free,Y,.free])) sz lv (ys.flatMap g) ys.length 2=some (e,cH,a::b::J2)/\bE g sz d 2 J2 cH (xs++ys):=by
 rcases h2 with⟨rfl,rfl⟩|⟨hne,rfl,rfl⟩
 .refine⟨rfl,?_⟩
  rcases h with⟨rfl,rfl⟩|⟨k,hne,rfl,hk⟩
  .exact⟨_,_,J++[.free,Y,.free],rfl,.inl ⟨rfl,rfl⟩⟩
  .refine⟨_,_,J++[.free,Y,.free],rfl,.inr ⟨k,by grind,M,?_⟩⟩
   grind
 .have hn:ys.length≠0:=fun h=>hne (EC h)
  have hg0:∀(xgr:aP)(J':aS) k,(a::b::(J'++[xgr,aH (ys.flatMap g),.free]))[J'.length+1+1+1+k]?=[aP.cells (ys.flatMap g),.free][k]?:=fun xgr J' k=>by grind
  have mB:look d ah (bI [0,1] (J.length+1+1) (a::b::(J++[.free,aH (ys.flatMap g),.free]))) d (J.length+1+1+1)=some (aH (ys.flatMap g)):=by rw[Zb (.inr (by grind)),show J.length+1+1+1=J.length+1+1+1+0 by omega,hg0];rfl
  have eX:seg (ys.flatMap g) 0 (ys.length*sz)=some (ys.flatMap g):=by unfold seg;rw[zi,zj hs,bU Z,s7,fT (by rw[zj hs];simp)]
  have hfree:(a::b::(J++[aP.free,aH (ys.flatMap g),.free]))[J.length+1+1+2]?=some .free:=hg0 .free J 1
  refine⟨by simp[bW,mB,eX,iJ],?_⟩
  have pq:∀(J':aS),J'.length=J.length->∀ O,(a::b::(J'++[aP.free,aH (ys.flatMap g),.free])).set (J.length+1+1+2) O=a::b::(J'++[.free,aH (ys.flatMap g),O]):=fun J' hJ O=>by grind
  have hres:∀(J':aS)(c:List IV),J'.length=J.length->(J'++[aP.free,aH (ys.flatMap g),aH c])[J.length+2]?=some (aH c):=fun J' c hJ=>by grind
  rcases h with⟨rfl,rfl⟩|⟨k,xR,rfl,hk⟩
  .rw[yp hn xa1]
   unfold dD
   rw[hfree]
   simp only[zi,pq J rfl]
   refine⟨_,_,_,rfl,.inr ⟨J.length+2,by grind,?_,hres J _ rfl⟩⟩
   grind
  .have lz:=(ew.1 hk).1
   have hgk:(a::b::(J++[aP.free,aH (ys.flatMap g),.free]))[2+k]?=some (aH (xs.flatMap g)):=by grind
   have hsk:(a::b::(J++[aP.free,aH (ys.flatMap g),.free])).set (2+k) .gone=a::b::(J.set k .gone++[.free,aH (ys.flatMap g),.free]):=by grind
   rw[zQ hn hx (zj hs) hsc (by rw[Zb (.inl Z)];omega)]
   unfold iG
   rw[hfree]
   simp only[zi,hsk,pq _ Vv]
   refine⟨_,_,_,rfl,.inr ⟨J.length+2,fun e=>xR (zml.1 e).1,?_,?_⟩⟩
   .grind
   simp
end
variable {Nc:Nat}{aW:H->Int}{la lb:List H}{nn:Int}{r:dI×IV×aS}
section
def CD(x y:Nd):Bool:=MS.all fun f=>f.2.2 x y
def Q4(x y:Ac):Bool:=R8.all fun f=>f.2.2 x y
def ftB(x y:Ft):Bool:=R7.all fun f=>f.2.2 x y
structure Sm(s:Sv):Prop where
 ns:s.pl.ns.l.length<=40
 ar:s.pl.az.l.length<=40
 via:∀ a∈s.pl.az.l,a.via.l.length<=300
 ft:s.ft.l.length<=20
 parts:∀ f∈s.ft.l,f.parts.l.length<=70
theorem FF(a:Nd):∀ x∈a.c,Fz 6 x:=fun x hx=>by refine Zo ?_;simp[Nd.c,zf,eG,gm,gw]at hx;rcases hx with rfl|rfl|rfl<;>rfl
theorem zft(a:Ac):∀ x∈a.c,Fz 6 x:=fun x hx=>by refine Zo ?_;simp[Ac.c,zf,eG,gm,gw]at hx;rcases hx with rfl|rfl|rfl|rfl|rfl|rfl<;>first|rfl|exact Fy a.via 4
def xX(a:Ft):∀ x∈a.c,Fz 6 x:=fun x hx m hm lv aa=>adh a x hx m Z lv aa
theorem Xh(a:Ac):a.c.all IV.scalar=true:=by rw[nu];intro x h;simp[Ac.c,zf,eG,gm,gw]at h;rcases h with rfl|rfl|rfl|rfl|rfl|rfl<;>first|rfl|exact yI _
theorem Sq(a:Ft):a.c.all IV.scalar=true:=by rw[nu];intro x h;simp[Ft.c,zf,eG,gm,gw]at h;rcases h with rfl|rfl|rfl|rfl|rfl<;>first|rfl|exact yI _
theorem Qo(hS:bk S)(h4:4<=Nc)(s u:Sv)(hs:Sm s)(hu:Sm u){id:Nat}{aa:aS}(hm:Nc+300000<=m)(hid:aa[id]?=some .free) :
  ∃ r,aL aO S m d ah aJ aa id 34 [xM 1 73 MS,s.pl.ns.v,u.pl.ns.v]=some r/\pI lV 2 (lT Nd.id CD 1 s.pl.ns.l u.pl.ns.l) d id aa r :=
 Aw hS h4 (Aq hS) rfl Nd.aV (fun a=>rfl) FF rfl (IS hS) s.pl.ns u.pl.ns (fun x _ y _=>zaa (Aq hS) (fun a=>rfl) Nd.aV MS Δ x y fun f hf=>by
  simp[MS,eG,gm,gw]at hf;subst hf;exact AK hS x y) (by have:=hs.ns; omega) (by have:=hu.ns; omega) hm hid
theorem Qq(hS:bk S)(h4:4<=Nc)(s u:Sv)(hs:Sm s)(hu:Sm u){id:Nat}{aa:aS}(hm:Nc+300000<=m)(hid:aa[id]?=some .free) :
  ∃ r,aL aO S m d ah aJ aa id 36 [xM 2 79 R8,s.pl.az.v,u.pl.az.v]=some r/\pI lV 2 (lT Ac.id Q4 2 s.pl.az.l u.pl.az.l) d id aa r :=
 Aw hS h4 (Av hS) rfl Ac.aV Xh zft rfl (IW hS) s.pl.az u.pl.az (fun x hx y _=>zaa (Av hS) Xh Ac.aV R8 Δ x y fun f hf=>by
  simp[R8,eG,gm,gw]at hf;rcases hf with rfl|rfl|rfl
  .exact zcm hS x y (by have:=hs.via x hx;omega)
  .exact zcn hS x y
  .exact zar hS x y) (by have:=hs.ar; omega) (by have:=hu.ar; omega) hm hid
theorem Qp(hS:bk S)(h4:4<=Nc)(s u:Sv)(hs:Sm s)(hu:Sm u){id:Nat}{aa:aS}(hm:Nc+300000<=m)(hid:aa[id]?=some .free) :
  ∃ r,aL aO S m d ah aJ aa id 38 [xM 3 90 R7,s.ft.v,u.ft.v]=some r/\pI lV 2 (lT Ft.id ftB 3 s.ft.l u.ft.l) d id aa r :=
 Aw hS h4 (Au hS) rfl Ft.aV Sq xX rfl (IU hS) s.ft u.ft (fun x hx y _=>zaa (Au hS) Sq Ft.aV R7 Δ x y fun f hf=>by
  simp[R7,eG,gm,gw]at hf;rcases hf with rfl|rfl|rfl|rfl
  .exact zco hS x y
  .exact zfs hS x y
  .exact zcp hS x y
  .exact zas hS x y (by have:=hs.parts x hx; omega)) (by have:=hs.ft; omega) (by have:=hu.ft; omega) hm hid
def tR(s u:Sv):List (Int×Int):=lT Nd.id CD 1 s.pl.ns.l u.pl.ns.l++lT Ac.id Q4 2 s.pl.az.l u.pl.az.l++lT Ft.id ftB 3 s.ft.l u.ft.l
theorem Yc{eqv:H->H->Bool}:(lT aW eqv nn la lb).length<=la.length+lb.length:=by unfold lT;have h2:=Zc (la.map aW++lb.map aW);grind
theorem QD(xs:List (Int×Int)):(xs.flatMap lV).all IV.scalar=true:=by rw[nu];intro x hx;obtain⟨a,_,h⟩:=oQ.1 hx;simp[lV,eG,gm,gw]at h;rcases h with rfl|rfl<;>rfl
theorem HU{xs:List (Int×Int)}{a b:aP}(h:pI lV 2 xs d (J.length+1+1+1) (a::b::(J++[.free,.free,.free])) r):∃ e lv Y,r=(e,lv,a::b::(J++[.free,Y,.free]))/\((xs=[]/\lv=.nilsl)∨(xs≠[]/\lv=.slM d (J.length+1+1+1) 0 xs.length xs.length 2 false/\Y=aH (xs.flatMap lV))):=by
 rcases h with⟨h1,rfl⟩|⟨h1,rfl⟩
 .grind
 simp[*]
theorem ZZ(hS:bk S)(h4:4<=Nc)(s u:Sv)(hs:Sm s)(hu:Sm u):∃ q:aR 2 lV,q.l=tR s u/\aM S (Nc+400000) 17 [.agg s.c,.agg u.c] q.v:=by
 have hlen:(tR s u).length<9223372036854775808:=by have h1:=Yc (aW:=Nd.id) (eqv:=CD) (nn:=1) (la:=s.pl.ns.l) (lb:=u.pl.ns.l);have h2:=Yc (aW:=Ac.id) (eqv:=Q4) (nn:=2) (la:=s.pl.az.l) (lb:=u.pl.az.l);have h3:=Yc (aW:=Ft.id) (eqv:=ftB) (nn:=3) (la:=s.ft.l) (lb:=u.ft.l);have:=hs.ns;have:=hs.ar;have:=hs.ft;have:=hu.ns;have:=hu.ar;have:=hu.ft;unfold tR;grind
 have eZ:∀(la lb:List (Int×Int)),List.Sublist (la++lb) (tR s u)->la.length+lb.length<=1073741824:=fun la lb h=>by have h0:=h.length_le;have h1:=Yc (aW:=Nd.id) (eqv:=CD) (nn:=1) (la:=s.pl.ns.l) (lb:=u.pl.ns.l);have h2:=Yc (aW:=Ac.id) (eqv:=Q4) (nn:=2) (la:=s.pl.az.l) (lb:=u.pl.az.l);have h3:=Yc (aW:=Ft.id) (eqv:=ftB) (nn:=3) (la:=s.ft.l) (lb:=u.ft.l);have:=hs.ns;have:=hs.ar;have:=hs.ft;have:=hu.ns;have:=hu.ar;have:=hu.ft;unfold tR at h0;grind
 refine⟨bZ zG (tR s u) hlen,zM ..,?_⟩;refine zr (i:=i17) (hS _ _ M M M M) rfl rfl (bP rfl) (Nc+399999) fun m hm d ah t af=>?_;simp[V2,Xb,i17,Sv.c]at af;have cn:=uN hS m Z;have ca:=D4 hS m Z;have cf:=vg hS m Z;generalize hkn:xM 1 73 MS=kn at cn;generalize hka:xM 2 79 R8=ka at ca;generalize hkf:xM 3 90 R7=kf at cf;have r1:=fun aJ aa id hid=>Qo hS h4 s u hs hu (m:=m) (d:=d) (id:=id) (ah:=ah) (aJ:=aJ) (aa:=aa) Z hid;have r2:=fun aJ aa id hid=>Qq hS h4 s u hs hu (m:=m) (d:=d) (id:=id) (ah:=ah) (aJ:=aJ) (aa:=aa) Z hid;have r3:=fun aJ aa id hid=>Qp hS h4 s u hs hu (m:=m) (d:=d) (id:=id) (ah:=ah) (aJ:=aJ) (aa:=aa) Z hid;rw[hkn]at r1;rw[hka]at r2;rw[hkf]at r3;generalize hA:s.o=A;generalize hB:u.o=B;let⟨w1,c1,EL⟩:=r1 (bI [0] 2 [A,B,.free,.free]) [A,B,.free,.free] 3 rfl;obtain⟨e1,VZ,J1,hw1,F8⟩:∃ e lv J,w1=(e,lv,A::B::J)/\bE lV 2 d 2 J lv (lT Nd.id CD 1 s.pl.ns.l u.pl.ns.l):=by
  rcases EL with⟨h1,rfl⟩|⟨h1,rfl⟩
  .exact⟨_,_,_,rfl,.inl ⟨h1,rfl⟩⟩
  .exact⟨_,_,[.free,aH _],rfl,.inr ⟨1,h1,rfl,rfl⟩⟩
 subst hw1;obtain ⟨w2,c2,EK⟩:=r2 (bI [0] (J1.length+1+1) (A::B::(J1++[.free,.free,.free]))) (A::B::(J1++[.free,.free,.free])) (J1.length+1+1+1) (by
  simp)
 obtain⟨e2,qw,Y2,rfl,hY2⟩:=HU EK;obtain⟨ci2,e3,lv3,J2,ap2,cL⟩:=JM (ah:=ah) (a:=A) (b:=B) zG F8 (eZ _ _ (List.sublist_append_left ..)) (QD _) hY2;obtain ⟨w3,c3,ho3⟩:=r3 (bI [0] (J2.length+1+1) (A::B::(J2++[.free,.free,.free]))) (A::B::(J2++[.free,.free,.free])) (J2.length+1+1+1) (by
  simp)
 obtain⟨e4,lv4,Y3,rfl,hY3⟩:=HU ho3;obtain⟨ci3,e5,lv5,J3,ap3,I8⟩:=JM (ah:=ah) (a:=A) (b:=B) zG cL (eZ _ _ (List.Sublist.refl _)) (QD _) hY3;subst hA hB;simp only[i17,V0,seval,af,cn,c1,ca,c2,zh,zl,ci2,zq,ap2,cf,c3,ci3,ap3,yj];exact⟨_,rfl,yy (Pre:=[_,_]) zG zck Z hlen I8⟩
end
structure DM extends DK where
 one:FuncId
 RT:FuncId
 md:Nat
def qB(X:DM):gP:=⟨111,[(.cell true X.sz 8),(.tmp 9),(.tmp 10)],(.seq (oZ 2 [oH 4 0 0,oR 8 (.newv X.z 1),oR 9 (.mov (.const (.bool false))),oR 10 (.mov (.const (.bool false)))]) (.seq (.seq (oZ 0 [oM 14 2,oR 15 (.eqp false (oT 14) (.const .bw)),oM 16 15,oG 17 (.mov (oT 3)) 16 true,oG 18 (.eqp false (oT 17) (.const .bw)) 16 true,oR 19 (.pick (oT 16) (oT 18) (.const (.bool false)))]) (.cond (oT 19) (.seq (oZ 0 [oA 20 X.sz 8,oN (.store X.sz (oT 8) (oT 20)),oR 9 (.mov (.const (.bool false))),oR 10 (.mov (.const (.bool false)))]) .ret) .skip)) (.seq (.seq (oZ 0 [oM 21 2,oR 22 (.eqp false (oT 21) (.const .bw)),oM 23 22,oG 24 (.mov (oT 3)) 23 false,oG 25 (.eqp false (oT 24) (.const .bw)) 23 false,oR 26 (.pick (oT 23) (.const (.bool true)) (oT 25))]) (.cond (oT 26) (.seq (oZ 0 [oM 27 2,oM 11 27]) (.seq (.seq (oZ 0 [oM 28 11,oR 29 (.eqp false (oT 28) (.const .bw))]) (.cond (oT 29) (oZ 0 [oM 30 3,oM 11 30]) .skip)) (.seq (.block 0 (.seq (oZ 0 [oM 32 1,oR 33 (.eqp false (oT 32) (.const .bw)),oM 31 33]) (.cond (oT 31) (.seq (oZ 0 [oM 34 11,oR 35 (.nilchk (oT 34)),oA 36 X.sz 35,oN (.store X.sz (oT 8) (oT 36)),oR 9 (.mov (.const (.bool true))),oR 10 (.mov (.const (.bool false)))]) .ret) (.seq (.region true 1 [oA 38 3 4,oM 39 1,oR 40 (.nilchk (oT 39)),oA 41 X.sz 40,oM 42 11,oR 43 (.nilchk (oT 42)),oA 44 X.sz 43,oR 45 (.call (.const (.fn X.Qc [] [])) [(oT 38),(oT 41),(oT 44)] 0),⟨(.some 37),(.mov (oT 45)),.none,[0]⟩] [(0,3),(0,6),(3,6)]) (.cond (oT 37) (.seq (oZ 0 [oA 46 X.sz 8,oN (.store X.sz (oT 8) (oT 46)),oR 9 (.mov (.const (.bool false))),oR 10 (.mov (.const (.bool false)))]) .ret) (.seq (oZ 0 [oM 48 2,oR 49 (.eqp false (oT 48) (.const .bw)),oM 47 49]) (.cond (oT 47) (.seq (oZ 0 [oA 50 X.sz 8,oN (.store X.sz (oT 8) (oT 50)),oR 9 (.mov (.const (.bool false))),oR 10 (.mov (.const (.bool true)))]) .ret) .skip))))))) (.seq (oZ 0 [oM 51 2,oR 52 (.nilchk (oT 51)),oA 53 X.sz 52,oN (.store X.sz (oT 8) (oT 53)),oR 9 (.mov (.const (.bool true))),oR 10 (.mov (.const (.bool true)))]) .ret)))) .skip)) (.seq (oZ 0 [oM 54 2,oR 55 (.nilchk (oT 54)),oA 56 X.sz 55,oN (.store X.sz (oT 8) (oT 56))]) (.seq (.seq (oZ 0 [oF 57 2 4,oL 58 57,oE 59 1 58,oK 60 0]) (.block 1 (.loop (.seq (oZ 0 [oB 61 .lss 60 59]) (.seq (oC 61 1) (.seq (.block 2 (.seq (oZ 1 [oD 62 2 58 60,oA 63 2 62,oR 13 (.newv [.iX,.iX] 0),oN (.store 2 (oT 13) (oT 63))]) (.block 3 (.seq (.region true 1 [oF 65 0 13,oL 66 65,oM 67 2,oR 68 (.nilchk (oT 67)),oA 69 X.sz 68,oM 70 3,oR 71 (.nilchk (oT 70)),oA 72 X.sz 71,oR 73 (.call (oT 66) [(oT 69),(oT 72)] 0),⟨(.some 64),(.mov (oT 73)),.none,[0]⟩] [(1,4),(1,7),(4,7)]) (.cond (oT 64) .skip (.seq (.region true 1 [oM 75 1,oR 76 (.eqp true (oT 75) (.const .bw)),oM 77 76,oG 78 (.faddr 0 (oT 13)) 77 true,oG 79 (.load false 1 (oT 78)) 77 true,oG 80 (.mov (oT 1)) 77 true,oG 81 (.nilchk (oT 80)) 77 true,oG 82 (.load true X.sz (oT 81)) 77 true,oG 83 (.mov (oT 2)) 77 true,oG 84 (.nilchk (oT 83)) 77 true,oG 85 (.load true X.sz (oT 84)) 77 true,oG 86 (.call (oT 79) [(oT 82),(oT 85)] 0) 77 true,⟨(.some 87),(.pick (oT 77) (oT 86) (.const (.bool false))),.none,[0]⟩,⟨(.some 74),(.mov (oT 87)),.none,[0]⟩] [(4,7),(4,10),(7,10)]) (.cond (oT 74) (.region true 1 [oF 88 1 13,oL 89 88,oM 90 3,oR 91 (.nilchk (oT 90)),oA 92 X.sz 91,oR 93 (.call (oT 89) [(oT 8),(oT 92)] 0)] [(1,4)]) (.seq (.region true 1 [oM 95 1,oR 96 (.eqp true (oT 95) (.const .bw)),oM 97 96,oG 98 (.faddr 0 (oT 13)) 97 true,oG 99 (.load false 1 (oT 98)) 97 true,oG 100 (.mov (oT 1)) 97 true,oG 101 (.nilchk (oT 100)) 97 true,oG 102 (.load true X.sz (oT 101)) 97 true,oG 103 (.mov (oT 3)) 97 true,oG 104 (.nilchk (oT 103)) 97 true,oG 105 (.load true X.sz (oT 104)) 97 true,oG 106 (.call (oT 99) [(oT 102),(oT 105)] 0) 97 true,⟨(.some 107),(.pick (oT 97) (oT 106) (.const (.bool false))),.none,[0]⟩,⟨(.some 94),(.mov (oT 107)),.none,[0]⟩] [(4,7),(4,10),(7,10)]) (.cond (oT 94) .skip (oZ 0 [oR 10 (.mov (.const (.bool true)))])))))))))) (oZ 0 [oJ 108 .add 60 1,oM 60 108]))))))) (.seq (oZ 0 [oA 109 X.sz 8,oM 110 10,oN (.store X.sz (oT 8) (oT 109)),oR 9 (.mov (.const (.bool true))),oM 10 110]) .ret)))))),0⟩
def GA(X:DM):gP:=⟨69,[(.tmp 8),(.tmp 9)],(.seq (oZ 1 [oH 4 0 0,oR 8 (.mov (.const .nilsl)),oR 9 (.mov (.const .nilsl))]) (.seq (.region true 3 [oA 18 3 4,oM 19 1,oR 20 (.call (.const (.fn X.idx [] [])) [(oT 18),(oT 19)] 0),oA 21 3 4,oM 22 2,⟨(.some 23),(.call (.const (.fn X.idx [] [])) [(oT 21),(oT 22)] 1),.none,[0]⟩,oA 24 3 4,oM 25 3,⟨(.some 26),(.call (.const (.fn X.idx [] [])) [(oT 24),(oT 25)] 2),.none,[0,1]⟩,⟨(.some 10),(.mov (oT 20)),.none,[0,1,2]⟩,⟨(.some 11),(.mov (oT 23)),.none,[0,1,2]⟩,⟨(.some 12),(.mov (oT 26)),.none,[0,1,2]⟩] [(0,3),(2,3),(0,6),(2,6),(3,6),(5,6)]) (.seq (.seq (oZ 1 [oA 27 3 4,oM 28 1,oM 29 2,oM 30 3,oR 31 (.bslice [.nilsl] 1 3 [(0,(1,(oT 28))),(1,(1,(oT 29))),(2,(1,(oT 30)))]),oR 32 (.call (.const (.fn X.ids [] [])) [(oT 27),(oT 31)] 0),oE 33 1 32,oK 34 0]) (.block 0 (.loop (.seq (oZ 0 [oB 35 .lss 34 33]) (.seq (oC 35 0) (.seq (.block 1 (.seq (oZ 0 [oD 36 1 32 34,oL 37 36,oM 14 37]) (.seq (oZ 2 [oA 39 3 4,oM 40 10,oM 41 14,oR 42 (.lookup .bw (false,[1]) false (oT 40) (oT 41)),oM 43 11,oM 44 14,oR 45 (.lookup .bw (false,[1]) false (oT 43) (oT 44)),oM 46 12,oM 47 14,oR 48 (.lookup .bw (false,[1]) false (oT 46) (oT 47)),oR 49 (.call (.const (.fn X.one [] [])) [(oT 39),(oT 42),(oT 45),(oT 48)] 0),oM 38 49,oX 50 38 0,oX 51 38 1,oX 52 38 2,oR 15 (.newv X.z 1),oN (.store X.sz (oT 15) (oT 50)),oM 16 51,oM 17 52]) (.seq (.seq (oZ 0 [oM 53 16]) (.cond (oT 53) (oZ 1 [oM 54 8,oA 55 X.sz 15,oR 56 (.bslice X.z X.sz 1 [(0,(X.sz,(oT 55)))]),oR 57 (.append X.z X.sz false (oT 54) (oT 56) 0),oM 8 57]) .skip)) (.seq (oZ 0 [oM 58 17]) (.cond (oT 58) (oZ 1 [oM 59 9,oF 60 0 4,oL 61 60,oM 62 14,oR 63 (.build [(aB 0),(aB 0)] [(0,(1,(oT 61))),(1,(1,(oT 62)))]),oR 64 (.bslice [(aB 0),(aB 0)] 2 1 [(0,(2,(oT 63)))]),oR 65 (.append [(aB 0),(aB 0)] 2 false (oT 59) (oT 64) 0),oM 9 65]) .skip)))))) (oZ 0 [oJ 66 .add 34 1,oM 34 66]))))))) (.seq (oZ 0 [oM 67 8,oM 68 9,oM 8 67,oM 9 68]) .ret)))),X.md⟩
structure A8(S:bX)(X:DM):Prop extends DkOK S X.toDK where
 one:(∀ args,S X.one args=none)/\aO X.one=some (qB X)
 RT:(∀ args,S X.RT args=none)/\aO X.RT=some (GA X)
def sG{H:Type}(b:Option H)(x y:H):List ((H->H->Bool)×(H->H->H))->H×Bool->H×Bool
 |[],r=>r
 | f::F,r=>sG b x y F (bif f.1 x y then r else match b with
  |none=>(r.1,true)
  | some z=>bif f.1 z x then (f.2 r.1 y,r.2) else bif f.1 z y then r else (r.1,true))
def jr(F:List ((H->H->Bool)×(H->H->H)))(b o t:Option H):Option H×Bool :=
 match o,t with
 |none,none=>(none,false)
 |some x,some y=>let r:=sG b x y F (x,false);(some r.1,r.2)
 |some x,none=>match b with
  |none=>(some x,false)
  |some z=>bif F.all (fun f=>f.1 z x)then(none,false)else(some x,true)
 |none,some x=>match b with
  |none=>(some x,false)
  |some z=>bif F.all (fun f=>f.1 z x)then(none,false)else(none,true)
theorem ve{H:Type}{b:Option H}{x y:H}:∀{F:List ((H->H->Bool)×(H->H->H))}{r:H×Bool},(sG b x y F r).2=true->r.2=true∨∃ f∈F,f.1 x y=false/\∀ z,b=some z->f.1 z x=false/\f.1 z y=false
 |[],r,h=>.inl h
 |f::F,r,h=>by
  unfold sG at h;rcases ve h with h|⟨g,hg,h1,h2⟩
  .grind
  grind
def LI(F:List ((H->H->Bool)×(H->H->H)))(a b:Option H):Bool:=match a,b with
 |none,none=>false
 |some x,some y=>!F.all fun f=>f.1 x y
 |_,_=>true
variable {F:List ((H->H->Bool)×(H->H->H))}{t:Option H}
theorem Ov{b o:Option H}(h:(jr F b o t).2=true):LI F b o=true/\LI F b t=true/\LI F o t=true:=by
 have hall:∀{x y:H}{f:(H->H->Bool)×(H->H->H)},f∈F->f.1 x y=false->(!F.all fun f=>f.1 x y)=true:=fun{x y f} hf hxy=>by grind
 cases o with
 |none =>
  cases t with
  |none=>cases h
  |some x =>
   cases b with
   |none=>cases h
   |some z =>
    refine⟨rfl,?_,rfl⟩
    exact xdv
 |some x =>
  cases t with
  |none =>
   cases b with
   |none=>cases h
   |some z =>
    refine⟨?_,rfl,rfl⟩
    exact xdv
  |some y =>
   rcases ve (show(sG b x y F (x,false)).2=true from h)with h|⟨f,hf,h1,h2⟩
   .grind
   .cases b with
    |none=>exact⟨rfl,rfl,hall hf h1⟩
    |some z=>exact⟨hall hf (h2 z rfl).1,hall hf (h2 z rfl).2,hall hf h1⟩
def mP(g:H->List IV)(sz:Nat):Option H->IV->Prop
 |none,v=>v=.bw
 |some x,v=>∃ c off,v=.ptrC c off/\bB c off sz=some (g x)
variable {X:DM}{fs:List IV}{nf:Nat}{tf:Bool}{vb vo vt:IV}
section
variable {g:H->List IV} 
theorem Cs(hX:A8 S X)(hz:X.z.length=X.sz)(hg:∀ a,(g a).length=X.sz)(nh:∀ a,(g a).all IV.scalar=true)(hzs:X.z.all IV.scalar=true)(sC:∀ a,∀ x∈g a,Fz 6 x)(hzf:∀ x∈X.z,Fz 6 x)
  (F:List ((H->H->Bool)×(H->H->H))) (heq:∀ x y,aM S 60020 X.Qc [eP nn k8 fs nf tf,.agg (g x),.agg (g y)] (.bool (F.all fun f=>f.1 x y))) {b o:Option H}  (hb:mP g X.sz b vb) (ho:mP g X.sz o vo) (ht:mP g X.sz t vt) (hot:o=none∨t=none) :
  aM S 60040 X.one [eP nn k8 fs nf tf,vb,vo,vt] (.tuple [.agg ((jr F b o t).1.elim X.z g),.bool (jr F b o t).1.isSome,.bool (jr F b o t).2]):=by
 refine zr (i:=qB X) (hX.one.1 _) hX.one.2 rfl (bP rfl) 60039 fun m hm d ah t0 af=>?_
 simp[V2,Xb,qB,eP]at af
 have pK:∀ x,bB (g x) 0 X.sz=some (g x):=fun x=>xb1
 have uW:bB X.z 0 X.sz=some X.z:=by have h2:=yk (l:=X.z);grind
 have hwr:∀ x,dS X.z 0 (g x)=g x:=fun x=>xb3
 have FW:dS X.z 0 X.z=X.z:=by have:=z8 (B:=X.z) (A:=[]) (R:=X.z) (k:=0) rfl Z;grind
 have hcx:∀ x:H,(IV.agg (g x)).cells=g x:=fun x=>rfl
 have hcz:(IV.agg X.z).cells=X.z:=rfl
 have ft:(false != true)=true:=rfl
 have fin:∀(cs:List IV)(p q:Bool)(aa:aS),(∀ x∈cs,Fz 6 x)->freeze m d aa (.tuple [.agg cs,.bool p,.bool q])=some (.tuple [.agg cs,.bool p,.bool q]):=fun cs p q aa hc=>by
  obtain⟨m,rfl⟩:=gv m 2;have h2:∀ p:Bool,freeze (m+1) d aa (.bool p)=some (.bool p):=fun p=>rfl;have h3:freeze (m+1) d aa (.agg cs)=some (.agg cs):=xcr
  unfold freeze;simp[*]
 cases o with
 |none =>
  cases ho
  cases t with
  |none =>
   cases ht
   simp only[qB,V0,seval,af,jX,Bb,ft,uW,FW,hwr,pK,hcx,hcz,hzs,nh,hz,hg,eB,cI]
   refine⟨_,?_,fin (X.z) false false _ hzf⟩
   exact xas
  |some x =>
   obtain⟨c,off,rfl,hrd⟩:=ht
   cases b with
   |none =>
    exact xbn
   |some z =>
    obtain⟨c2,off2,rfl,C2⟩:=hb
    have c0:=fun dd oo aJ aa id=>heq z x m Z dd oo aJ aa id
    simp[eP]at c0
    cases he:F.all fun f=>f.1 z x
    .rw[he]at c0
     rw[show jr F (some z) none (some x)=(none,true) by simp[jr,he,bT]]
     simp only[qB,V0,seval,af,jX,Bb,ft,uW,FW,hwr,pK,hcx,hcz,hzs,nh,hz,hg,eB,cI,hrd,C2,c0]
     refine⟨_,?_,fin (X.z) false true _ hzf⟩
     exact xas
    .rw[he]at c0
     rw[show jr F (some z) none (some x)=(none,false) by simp[jr,he,bV]]
     exact xbs
 |some x =>
  obtain rfl:t=none:=hot.resolve_left M
  cases ht
  obtain⟨c,off,rfl,hrd⟩:=ho
  cases b with
  |none =>
   exact xbn
  |some z =>
   obtain⟨c2,off2,rfl,C2⟩:=hb
   have c0:=fun dd oo aJ aa id=>heq z x m Z dd oo aJ aa id
   simp[eP]at c0
   cases he:F.all fun f=>f.1 z x
   .rw[he]at c0
    rw[show jr F (some z) (some x) none=(some x,true) by simp[jr,he,bT]]
    simp only[qB,V0,seval,af,jX,Bb,ft,uW,FW,hwr,pK,hcx,hcz,hzs,nh,hz,hg,eB,cI,hrd,C2,c0]
    refine⟨_,?_,fin (g x) true true _ (sC x)⟩
    exact xas
   .rw[he]at c0
    rw[show jr F (some z) (some x) none=(none,false) by simp[jr,he,bV]]
    exact xbs
end
structure Fd(H:Type) where
 s:FuncId
 k:FuncId
 eq:H->H->Bool
 tk:H->H->H
def Fd.p(f:Fd H):(H->H->Bool)×(H->H->H):=(f.eq,f.tk)
def mR(b:Option H)(x y:H)(r:H×Bool)(f:(H->H->Bool)×(H->H->H)):H×Bool :=
 bif f.1 x y then r else match b with
  |none=>(r.1,true)
  |some z=>bif f.1 z x then(f.2 r.1 y,r.2)else bif f.1 z y then r else(r.1,true)
theorem vc{H:Type}{b:Option H}{x y:H}{f:(H->H->Bool)×(H->H->H)}:∀{F:List ((H->H->Bool)×(H->H->H))}{r:H×Bool},sG b x y (F++[f]) r=mR b x y (sG b x y F r) f
 |[],r=>rfl
 |g::F,r=>vc (F:=F)
section
variable {g:H->List IV} 
def Uh(f:Fd H):List IV:=[.fn f.s [] [],.fn f.k [] []]
theorem Ow(hX:A8 S X)(hz:X.z.length=X.sz)(hg:∀ a,(g a).length=X.sz)(nh:∀ a,(g a).all IV.scalar=true)(sC:∀ a,∀ x∈g a,Fz 6 x)
  (F:List (Fd H)) (hF:F.length<=10) (hs:∀ f∈F,∀ x y,aM S 60000 f.s [.agg (g x),.agg (g y)] (.bool (f.eq x y)))
  (pL:∀ f∈F,∀(r y:H)(m:Nat),100<=m->∀ D ah aJ aa b,aa[b]?=some (aH (g r))->∃ J,∀ id,aL aO S m D ah aJ aa id f.k [.ptrM D b 0,.agg (g y)]=some (.x,.tuple [],aa.set b (aH (g (f.tk r y)))++J))
  {b:Option H}   (hb:mP g X.sz b vb) (ho:mP g X.sz (some x) vo) (ht:mP g X.sz (some y) vt) :
  aM S 60040 X.one [eP nn k8 (F.flatMap Uh) F.length tf,vb,vo,vt] (.tuple [.agg (g (sG b x y (F.map Fd.p) (x,false)).1),.bool true,.bool (sG b x y (F.map Fd.p) (x,false)).2]):=by
 refine zr (i:=qB X) (hX.one.1 _) hX.one.2 rfl (bP rfl) 60039 fun m hm d ah t0 af=>?_
 simp[V2,Xb,qB,eP]at af
 obtain⟨c1,o1,rfl,jE⟩:=ho
 obtain⟨c2,o2,rfl,hr2⟩:=ht
 have pK:∀ x,bB (g x) 0 X.sz=some (g x):=fun x=>xb1
 have hwr:∀ x,dS X.z 0 (g x)=g x:=fun x=>xb3
 have agd:∀ x,dS (g x) 0 (g x)=g x:=fun x=>by have:=z8 (B:=g x) (A:=[]) (R:=g x) (k:=0) rfl Z;grind
 have hcx:∀ x:H,(IV.agg (g x)).cells=g x:=fun x=>rfl
 have ft:(false != true)=true:=rfl
 have fin:∀(cs:List IV)(p q:Bool)(aa:aS),(∀ x∈cs,Fz 6 x)->freeze m d aa (.tuple [.agg cs,.bool p,.bool q])=some (.tuple [.agg cs,.bool p,.bool q]):=fun cs p q aa hc=>by
  obtain⟨m,rfl⟩:=gv m 2;have h2:∀ p:Bool,freeze (m+1) d aa (.bool p)=some (.bool p):=fun p=>rfl;have h3:freeze (m+1) d aa (.agg cs)=some (.agg cs):=xcr
  rw[show m+2=(m+1)+1 from rfl];unfold freeze;simp[*]
 simp only[qB,V0,seval,af,jX,Bb,ft,hwr,pK,hcx,nh,hz,hg,jE,hr2,eB,cI]
 refine zm F.length (fun i st=>∃(r:H×Bool)(J:aS),r=sG b x y ((F.take i).map Fd.p) (x,false)/\st.aa=aH [aB nn,.fn k8 [] [],.slC (F.flatMap Uh) F.length 2 tf]::aH (g r.1)::J/\aN 111 st.t [(1,vb),(2,.ptrC c1 o1),(3,.ptrC c2 o2),(4,.ptrM d 0 0),(8,.ptrM d 1 0),(10,.bool r.2),(58,.slC (F.flatMap Uh) F.length 2 tf),(59,iv (F.length:Nat)),(60,iv i)]) Z ⟨(x,false),_,rfl,rfl,by simp[V0,seval,af,cZ]⟩ ?_
 rintro i ⟨t,aa⟩ KA hi ⟨r,J,hr,ho,af⟩ bp bK bQ
 subst ho
 simp[za,zb,zf]at af
 by_cases h:i<F.length
 .have hx:F[i]?=some F[i]:=dw h
  have hmem:F[i]∈F:=gQ h
  generalize F[i]=f at hx hmem
  have hrd:bB (F.flatMap Uh) (i*2) 2=some [.fn f.s [] [],.fn f.k [] []]:=(zd (sz:=2) (g:=Uh) (fun _=>rfl) 0 2 hx Z).trans rfl
  have kX:∀ aa,cu aa 2 (.slC (F.flatMap Uh) F.length 2 tf) (aB (i:Int))=some (.p,.ptrC (F.flatMap Uh) (i*2),aa):=fun aa=>zC h
  have hw:=zt i
  have hh:∀(vis:List Nat)(x y z w:aP),(bI vis (J.length+1+1+1) (x::y::(J++[z,w])))[J.length+2]?=some z:=fun vis x y z w=>by rw[zu,rG,rG,q8 (cI _),Ew];simp
  have cs:=fun x y d ah aJ aa id=>hs f hmem x y m Z d ah aJ aa id
  have hst:sG b x y ((F.take (i+1)).map Fd.p) (x,false)=mR b x y r f.p:=by rw[jh,hx,oP,Hi,mQ,tX,vc,hr]
  cases hq:f.eq x y
  .have hh2:∀(vis:List Nat)(x y z w v:aP),(bI vis (J.length+1+1+1+1) (x::y::(J++[z,w,v])))[J.length+2]?=some z:=fun vis x y z w v=>by rw[zu,rG,rG,q8 (cI _),Ew];simp
   have hh3:∀(vis:List Nat)(x y z w v u:aP),(bI vis (J.length+1+1+1+1+1) (x::y::(J++[z,w,v,u])))[J.length+2]?=some z:=fun vis x y z w v u=>by rw[zu,rG,rG,q8 (cI _),Ew];simp
   have hk0:∀ D ah aJ aa b,∃ Jn:aS,aa[b]?=some (aH (g r.1))->∀ id,aL aO S m D ah aJ aa id f.k [.ptrM D b 0,.agg (g y)]=some (.x,.tuple [],aa.set b (aH (g (f.tk r.1 y)))++Jn):=fun D ah aJ aa b=>by
    by_cases hb:aa[b]?=some (aH (g r.1))
    .let⟨Jn,h⟩:=pL f hmem r.1 y m Z D ah aJ aa b hb;simp[*]
    simp_all
   obtain⟨JJ,hJJ⟩:∃ JJ:Nat->(bq)->List aP->List aP->bq,∀ D ah aJ aa b,aa[b]?=some (aH (g r.1))->∀ id,aL aO S m D ah aJ aa id f.k [.ptrM D b 0,.agg (g y)]=some (.x,.tuple [],aa.set b (aH (g (f.tk r.1 y)))++JJ D ah aJ aa b):=⟨fun D ah aJ aa b=>(hk0 D ah aJ aa b).choose,fun D ah aJ aa b=>(hk0 D ah aJ aa b).choose_spec⟩
   clear hk0
   have tt:(true != true)=false:=rfl
   have tn:(true != false)=true:=rfl
   have tf:∀ c o,jX (.ptrC c o) .bw=some false:=fun _ _=>rfl
   cases b with
   |none =>
    cases hb
    have h2:mR none x y r f.p=(r.1,true):=by unfold mR;rw[show f.p.1 x y=f.eq x y from rfl,hq];rfl
    simp only[V0,seval,af,h,kX,hrd,jE,hr2,hh,hh2,hh3,cs,hq,hw,jX,Bb,ft,tt,tn]
    exact bp Z _ ⟨(r.1,true),_,by grind,rfl,by simp[V0,seval,af,hw,hq]⟩
   |some z =>
    obtain⟨c3,o3,rfl,hr3⟩:=hb
    cases TM:f.eq z x
    .cases hzy:f.eq z y
     .have h2:mR (some z) x y r f.p=(r.1,true):=by unfold mR;simp[show f.p.1=f.eq from rfl,hq,TM,hzy,bT]
      simp only[V0,seval,af,h,kX,hrd,jE,hr2,hr3,hh,hh2,hh3,cs,hq,hw,jX,Bb,ft,tt,tn,TM,hzy]
      exact bp Z _ ⟨(r.1,true),_,by grind,rfl,by simp[V0,seval,af,hw,hq,TM,hzy]⟩
     .have h2:mR (some z) x y r f.p=r:=by unfold mR;simp[show f.p.1=f.eq from rfl,hq,TM,hzy,bT,bV]
      simp only[V0,seval,af,h,kX,hrd,jE,hr2,hr3,hh,hh2,hh3,cs,hq,hw,jX,Bb,ft,tt,tn,TM,hzy]
      exact bp Z _ ⟨r,_,by grind,rfl,by simp[V0,seval,af,hw,hq,TM,hzy]⟩
    .have h2:mR (some z) x y r f.p=(f.tk r.1 y,r.2):=by unfold mR;simp[show f.p.1=f.eq from rfl,show f.p.2=f.tk from rfl,hq,TM,bT,bV]
     simp only[V0,seval,af,h,kX,hrd,jE,hr2,hr3,hh,hh2,hh3,cs,hq,hw,jX,Bb,ft,tt,tn,TM,hJJ]
     exact bp Z _ ⟨(f.tk r.1 y,r.2),_,by grind,rfl,by simp[V0,seval,af,hw,hq,TM,hJJ]⟩
  .have h2:mR b x y r f.p=r:=by unfold mR;rw[show f.p.1 x y=f.eq x y from rfl,hq];rfl
   simp only[V0,seval,af,h,kX,hrd,jE,hr2,hh,cs,hq,hw]
   exact bp Z _ ⟨r,_,by grind,rfl,by simp[V0,seval,af,hw,hq]⟩
 .simp[V0,seval,af,h]
  refine bK _ _ ?_
  obtain rfl:i=F.length:=Z
  rw[rD]at hr
  rw[←hr]
  simp[V0,seval,af,pK,agd,hcx,nh,hg,eB,cI]
  refine⟨_,?_,fin (g r.1) true r.2 _ (sC _)⟩
  simp[bh,mq,qi,zV,zW,V0,seval,af,pK,Zl,nY,nZ,iD,jY]
end
section
variable (aW:H->Int) (F:List ((H->H->Bool)×(H->H->H)))
def qV(l:List H)(id:Int):Option H:=l.find? fun x=>aW x==id
def oq(lb lo lt:List H)(id:Int):Option H×Bool:=jr F (qV aW lb id) (qV aW lo id) (qV aW lt id)
def Tt(lb lo lt:List H):List Int:=gG ([lb,lo,lt].flatMap fun l=>l.map aW)
def pU(lb lo lt:List H):List H:=(Tt aW lb lo lt).filterMap fun id=>(oq aW F lb lo lt id).1
def nE(nn:Int)(lb lo lt:List H):List (Int×Int):=((Tt aW lb lo lt).filter fun id=>(oq aW F lb lo lt id).2).map fun id=>(nn,id)
end
section
variable {eqv:H->H->Bool}
theorem Jc{id:Int}(h:(qV aW l id).isSome=true):id∈l.map aW:=by let⟨x,hx⟩:=zld.1 h;have h1:=zn1 hx;rw[Ev]at h1;rw[←h1];exact W7 (zkc hx)
theorem Gn{id:Int}(he:∀ x y,eqv x y=F.all fun f=>f.1 x y)(h:LI F (qV aW la id) (qV aW lb id)=true):(nn,id)∈lT aW eqv nn la lb:=by
 refine kO.2 ⟨id,EP.2 ⟨?_,?_⟩,rfl⟩
 .rw[xC,qY];cases ha:qV aW la id with
  |some x=>exact .inl (Jc (by grind))
  |none =>
   cases hb:qV aW lb id with
   |some y=>exact .inr (Jc (by grind))
   |none=>rw[ha,hb]at h;cases h
 .show(match qV aW la id,qV aW lb id with|some x,some y=>!(eqv x y)|_,_=>true)=true
  cases ha:qV aW la id with
  |none=>rfl
  |some x =>
   cases hb:qV aW lb id with
   |none=>rfl
   |some y =>
    rw[ha,hb]at h
    show(!(eqv x y))=true
    rw[he]
    exact h
theorem zfv{lo lt:List H}{c:Int×Int}(he:∀ x y,eqv x y=F.all fun f=>f.1 x y)(h:c∈nE aW F nn lb lo lt):c∈lT aW eqv nn lb lo/\c∈lT aW eqv nn lb lt/\c∈lT aW eqv nn lo lt:=by obtain⟨id,h1,rfl⟩:=kO.1 h;let⟨h2,h3,h4⟩:=Ov (EP.1 h1).2;exact⟨Gn he h2,Gn he h3,Gn he h4⟩
end
variable {I:Type}{Nj:Nat}{g2:I->List IV}
def jf(g:H->List IV)(sz:Nat)(xs:List H)(ys:aR Nj g2)(d id:Nat)(aa:aS)(r:dI×IV×aS):Prop:=(xs=[]/\r=(.r,.tuple [.nilsl,ys.v],aa))∨(xs≠[]/\r=(.a,.tuple [.slM d id 0 xs.length xs.length sz false,ys.v],aa.set id (aH (xs.flatMap g))))
variable {lc:IV}{n:Nat}
theorem uT{g:H->List IV}(hs:∀ a,(g a).length=sz)(hs2:∀ a,(g2 a).length=Nj)(hf:∀ a,∀ x∈g a,Fz 6 x)(hf2:∀ a,∀ x∈g2 a,Fz 6 x){id:Nat}{Pre aa:aS}{ys:List I}(hy:ys.length<9223372036854775808)
  (h:bE g sz (d+1) Pre.length J lv xs) (hc:bE g2 Nj (d+1) Pre.length J lc ys) (Pj:∀ b c l1 l2 z1 z2,lv=.slM (d+1) (Pre.length+b) 0 l1 l1 z1 false->lc=.slM (d+1) (Pre.length+c) 0 l2 l2 z2 false->b≠c) (hid:aa[id]?=some .free) :
  ∃ r,leave (n+9) d (Pre++J) aa id 1 (.tuple [lv,lc])=some r/\jf g sz xs (bZ hs2 ys hy) d id aa r:=by
 rcases h with⟨rfl,rfl⟩|⟨b,hne,rfl,h2⟩
 .have h3:=YQ (m:=n+8) hs2 hf2 Z hy hc
  refine⟨_,?_,.inl ⟨rfl,rfl⟩⟩
  have h4:freeze (n+8) (d+1) (Pre++J) .nilsl=some .nilsl:=yZ _ Z _ _
  show(freeze (n+9) (d+1) (Pre++J) (.tuple [.nilsl,lc])).map (fun v'=>(dI.r,v',aa))=_
  unfold freeze
  simp_all
 .have eX:seg (xs.flatMap g) 0 (xs.length*sz)=some (xs.flatMap g):=by unfold seg;rw[zi,zj hs,bU Z,s7,fT (by rw[zj hs];grind)]
  have hfz:∀ o,(xs.flatMap g).mapM (freeze (n+9) (d+1) o)=some (xs.flatMap g):=fun o=>zD fun x hx=>xe2
  have pq:(Pre++J).set (Pre.length+b) .gone=Pre++J.set b .gone:=by grind
  have nM:bE g2 Nj (d+1) Pre.length (J.set b .gone) lc ys:=by
   rcases hc with h|⟨c,xR,hl,h3⟩
   .exact .inl h
   .refine .inr ⟨c,xR,hl,?_⟩;grind
  refine⟨_,?_,.inr ⟨hne,rfl⟩⟩
  unfold leave
  simp[if_true,handed,zN,h2,eX,pq,hfz,mq,qi,(YQ (m:=n+9) hs2 hf2 Z hy nM),nY,nZ,iD,dD,hid,zi]
def WY(d k0:Nat)(lv lc:IV):Prop:=∀ b c l1 l2 z1 z2,lv=.slM d (k0+b) 0 l1 l1 z1 false->lc=.slM d (k0+c) 0 l2 l2 z2 false->b≠c
variable {k0:Nat}
def WY.symm(h:WY d k0 lv lc):WY d k0 lc lv:=fun b c l1 l2 z1 z2 h1 h2=>(h c b l2 l1 z2 z1 h2 h1).symm
theorem zfw{g:H->List IV}(hs:∀ a,(g a).length=sz){Pre:aS}{us:List I}(hk0:Pre.length=k0)(h:bE g sz d k0 J lv xs)(hc:bE g2 Nj d k0 J lc us)(Pj:WY d k0 lv lc)
  (hy:ys.length≠0) (hx:xs.length+ys.length<=1073741824) (hk:n0+slot=k0+(J.length+k)) (hf:R[k]?=some .free) (hsc:(ys.flatMap g).all IV.scalar=true) :
  ∃ e cH J2,aY d n0 (look d ah (Pre++(J++R))) (Pre++(J++R)) sz lv (ys.flatMap g) ys.length slot=some (e,cH,Pre++J2)/\bE g sz d k0 J2 cH (xs++ys)/\bE g2 Nj d k0 J2 lc us/\WY d k0 cH lc/\J2.length=(J++R).length:=by
 subst hk0
 have lz:k<R.length:=(ew.1 hf).1
 have gU:(J++R)[J.length+k]?=some .free:=by grind
 have au:J.length+k<(J++R).length:=by grind
 have hne:xs++ys≠[]:=by simp_all
 have jM:∀ c l2 z2,lc=.slM d (Pre.length+c) 0 l2 l2 z2 false->c<J.length:=fun c l2 z2 e=>by
  rcases hc with⟨_,h⟩|⟨c',_,h,h3⟩
  .grind
  grind
 have hnew:∀ n,WY d Pre.length (.slM d (Pre.length+(J.length+k)) 0 n n sz false) lc:=fun n b c l1 l2 z1 z2 h1 h2=>by grind
 have hkeep:∀ J2:aS,(∀ c l2 z2,lc=.slM d (Pre.length+c) 0 l2 l2 z2 false->J2[c]?=J[c]?)->bE g2 Nj d Pre.length J2 lc us:=fun J2 hj=>by
  rcases hc with h|⟨c,h1,h2,h3⟩
  .exact .inl h
  .exact .inr ⟨c,h1,h2,by grind⟩
 rcases h with⟨rfl,rfl⟩|⟨b,_,rfl,h2⟩
 .rw[yp hy xfw]
  unfold dD
  rw[hk,zN,gU]
  simp only[zi]
  rw[yd]
  refine⟨_,_,_,rfl,.inr ⟨J.length+k,hne,M,?_⟩,hkeep _ fun c l2 z2 hl=>?_,?_,by grind⟩
  .grind
  .grind
  grind
 .have hb:b<J.length:=(ew.1 h2).1
  have fE:(J++R)[b]?=some (aH (xs.flatMap g)):=by grind
  rw[zQ hy hx (zj hs) hsc xcw]
  unfold iG
  rw[hk,zN,gU]
  simp only[zi]
  rw[yd,yd]
  refine⟨_,_,_,rfl,.inr ⟨J.length+k,hne,M,?_⟩,hkeep _ fun c l2 z2 hl=>?_,?_,by grind⟩
  .grind
  .have:=jM c l2 z2 hl
   have:=Pj b c _ _ _ _ rfl hl
   grind
  grind
section
variable {g:H->List IV} 
theorem xm(hX:A8 S X)(hz:X.z.length=X.sz)(hg:∀ a,(g a).length=X.sz)(nh:∀ a,(g a).all IV.scalar=true)(hzs:X.z.all IV.scalar=true)(sC:∀ a,∀ x∈g a,Fz 6 x)(hzf:∀ x∈X.z,Fz 6 x)
  (F:List (Fd H)) (hF:F.length<=10) (heq:∀ x y,aM S 60020 X.Qc [eP nn k8 (F.flatMap Uh) F.length tf,.agg (g x),.agg (g y)] (.bool ((F.map Fd.p).all fun f=>f.1 x y)))
  (hs:∀ f∈F,∀ x y,aM S 60000 f.s [.agg (g x),.agg (g y)] (.bool (f.eq x y)))
  (pL:∀ f∈F,∀(r y:H)(m:Nat),100<=m->∀ D ah aJ aa b,aa[b]?=some (aH (g r))->∃ J,∀ id,aL aO S m D ah aJ aa id f.k [.ptrM D b 0,.agg (g y)]=some (.x,.tuple [],aa.set b (aH (g (f.tk r y)))++J))
  {b o:Option H}  (hb:mP g X.sz b vb) (ho:mP g X.sz o vo) (ht:mP g X.sz t vt) :
  aM S 60040 X.one [eP nn k8 (F.flatMap Uh) F.length tf,vb,vo,vt] (.tuple [.agg ((jr (F.map Fd.p) b o t).1.elim X.z g),.bool (jr (F.map Fd.p) b o t).1.isSome,.bool (jr (F.map Fd.p) b o t).2]):=by
 cases o with
 |none=>exact Cs hX hz hg nh hzs sC hzf _ heq hb ho ht (.inl rfl)
 |some x =>
  cases t with
  |none=>exact Cs hX hz hg nh hzs sC hzf _ heq hb ho ht (.inr rfl)
  |some y=>exact Ow hX hz hg nh sC F hF hs pL hb ho ht
end
section
variable {g:H->List IV} 
theorem CF(hS:bk S)(h4:4<=Nc)(hX:A8 S X)(hz:X.z.length=X.sz)(hg:∀ a,(g a).length=X.sz)(nh:∀ a,(g a).all IV.scalar=true)(sC:∀ a,∀ x∈g a,Fz 6 x)(hzs:X.z.all IV.scalar=true)(hid:∀ x,aM S 4 k8 [.agg (g x)] (aB (aW x)))
  (G:List ((H->H->Bool)×(H->H->H))) (hone:∀{b o t:Option H}{vb vo vt:IV},mP g X.sz b vb->mP g X.sz o vo->mP g X.sz t vt->aM S 60040 X.one [eP nn k8 fs nf tf,vb,vo,vt] (.tuple [.agg ((jr G b o t).1.elim X.z g),.bool (jr G b o t).1.isSome,.bool (jr G b o t).2]))
  (lb lo lt:aR X.sz g) (h1:lb.l.length<=1000) (h2:lo.l.length<=1000) (h3:lt.l.length<=1000)  {bH:bq} (hm:Nc+300000<=m+10) {t:List IV} (af:aN 69 t (slotsOf 0 [eP nn k8 fs nf tf,lb.v,lo.v,lt.v]))  (fin:∀(t':List IV)(Pre J:aS)(lv lc:IV),bE g X.sz (d+1) Pre.length J lv (pU aW G lb.l lo.l lt.l)->bE lV 2 (d+1) Pre.length J lc (nE aW G nn lb.l lo.l lt.l)->WY (d+1) Pre.length lv lc->aN 69 t' [(8,lv),(9,lc)]->K .ret ⟨t',Pre++J⟩):Ex (aL aO S (m+9)) (d+1) bH (m+9) (GA X).body K ⟨t,[]⟩:=by
 simp[V2,Xb,GA,eP]at af
 have hlen:([lb,lo,lt].flatMap fun l=>l.l.map aW).length<65536:=by grind
 have ca:=fun(l:aR X.sz g)(hl:l.l.length<=1000) d ah aJ aa id=>xP (nn:=nn) (fs:=fs) (nf:=nf) (tf:=tf) hX.toDkOK hg nh sC hid l (m+9) Z d ah aJ aa id
 have cb:=ca lb h1
 have co:=ca lo h2
 have ct:=ca lt h3
 have ci:=fun d ah aJ aa id=>IQ (nn:=nn) (fs:=fs) (nf:=nf) (tf:=tf) hS h4 hX.toDkOK hz hg nh hzs hid [lb,lo,lt] true hlen (bP rfl) (m+9) Z d ah aJ aa id
 have lka:∀(l:aR X.sz g) id,gR none (dG (l.l.map aW) l.l.length) id=(l.l.map aW).findIdx? fun b=>b==id:=fun l id=>by rw[zfp,fT M]
 have lkb:=lka lb
 have lko:=lka lo
 have lkt:=lka lt
 generalize dG (lb.l.map aW) lb.l.length=IB at cb lkb
 generalize dG (lo.l.map aW) lo.l.length=IOq' at co lko
 generalize dG (lt.l.map aW) lt.l.length=IT at ct lkt
 have hq0:=VH (gG ([lb,lo,lt].flatMap fun l=>l.l.map aW)) (Zu hlen)
 generalize SJ (gG ([lb,lo,lt].flatMap fun l=>l.l.map aW)) (Zu hlen)=q at ci hq0
 have hq:q.l=Tt aW lb.l lo.l lt.l:=hq0
 simp only[eP,mQ,tX,fB,gq]at cb co ct ci
 simp[GA,V0,seval,af,cb,co,ct]
 have aak:∀ z a b c:IV,(if 1<=(rep [z] 3).length then if 2<=(dS (rep [z] 3) 0 [a]).length then if 3<=(dS (dS (rep [z] 3) 0 [a]) 1 [b]).length then some (dS (dS (dS (rep [z] 3) 0 [a]) 1 [b]) 2 [c])else none else none else none)=some [a,b,c]:=fun z a b c=>rfl
 simp[aak,V0,seval,af,ci]
 have pz:q.l.length<=3000:=by
  rw[hq];have hl:([lb.l,lo.l,lt.l].flatMap fun l=>l.map aW).length<=3000:=by simp only[eT,jm,mV,qE,gq];omega
  exact iQ (Zc _) hl
 refine zm q.l.length (fun i st=>∃(J:aS)(lv lc:IV),bE g X.sz (d+1) 1 J lv ((q.l.take i).filterMap fun id=>(oq aW G lb.l lo.l lt.l id).1)/\bE lV 2 (d+1) 1 J lc (((q.l.take i).filter fun id=>(oq aW G lb.l lo.l lt.l id).2).map fun id=>(nn,id))/\WY (d+1) 1 lv lc/\st.aa=aH [aB nn,.fn k8 [] [],.slC fs nf 2 tf]::J/\aN 69 st.t [(4,.ptrM (d+1) 0 0),(8,lv),(9,lc),(10,.cR (eD IB) (eL (oW (lb.l.flatMap g) X.sz) IB)),(11,.cR (eD IOq') (eL (oW (lo.l.flatMap g) X.sz) IOq')),(12,.cR (eD IT) (eL (oW (lt.l.flatMap g) X.sz) IT)),(32,q.v),(33,iv (q.l.length:Nat)),(34,iv i)]) Z ⟨_,.nilsl,.nilsl,.inl ⟨rfl,rfl⟩,.inl ⟨rfl,rfl⟩,fun b c l1 l2 z1 z2 e=>M,rfl,by simp[V0,seval,af,ci,cZ]⟩ ?_
 rintro i ⟨t,bJ⟩ KA hi ⟨J,lv,lc,hO,hOc,hD,ho,af⟩ bp bK bQ
 subst ho
 simp[za,zb,zf]at af
 by_cases h:i<q.l.length
 rotate_left
 .simp[V0,seval,af,h]
  refine bK _ _ ?_
  obtain rfl:i=q.l.length:=Z
  rw[←(show pU aW G lb.l lo.l lt.l=(q.l.take q.l.length).filterMap fun id=>(oq aW G lb.l lo.l lt.l id).1 by rw[rD,hq];rfl)]at hO
  rw[←(show nE aW G nn lb.l lo.l lt.l=((q.l.take q.l.length).filter fun id=>(oq aW G lb.l lo.l lt.l id).2).map fun id=>(nn,id) by rw[rD,hq];rfl)]at hOc
  simp[V0,seval,af]
  exact fin _ [_] J lv lc hO hOc hD (by simp[V0,seval,af])
 obtain⟨z,hx⟩:=fc (l:=q.l) (i:=i) h
 have gE:bB (q.l.flatMap aK) (i*1) 1=some [aB z]:=xbu
 have hw:=zt i
 have ev:∀(l:aR X.sz g)(xgs:List (Int×Option Nat))(C:Call)(n0:Nat)(aJ aa:aS)(t:List IV)(a b:bD),ρ t a=.cR (eD xgs) (eL (oW (l.l.flatMap g) X.sz) xgs)->ρ t b=aB z->bY C (d+1) bH n0 aJ aa t (.lookup .bw (false,[1]) false a b)=some (.p,oW (l.l.flatMap g) X.sz (gR none xgs z),aa):=fun l xgs C n0 aJ aa t a b h1 h2=>YP (u:=oW (l.l.flatMap g) X.sz) none z rfl h1 h2
 have hp:∀(l:aR X.sz g)(xgs:List (Int×Option Nat)),(∀ id,gR none xgs id=(l.l.map aW).findIdx? fun b=>b==id)->mP g X.sz (qV aW l.l z) (oW (l.l.flatMap g) X.sz (gR none xgs z)):=fun l xgs lk=>by
  unfold qV;rw[Ad,←lk];cases hA:gR none xgs z with
  |none=>rfl
  |some k =>
   have hk:k<l.l.length:=by rw[lk]at hA;obtain⟨au,_,_⟩:=EW.1 hA;rwa [qE]at au
   have hy:l.l[k]?=some l.l[k]:=dw hk
   rw[iD,hy]
   refine⟨_,_,rfl,?_⟩
   have h1:=zd hg 0 X.sz hy Z
   have h2:=yk (l:=g l.l[k])
   grind
 have c1:=fun dd oo aJ aa id=>hone (hp lb IB lkb) (hp lo IOq' lko) (hp lt IT lkt) (m+9) Z dd oo aJ aa id
 have hu:jr G (qV aW lb.l z) (qV aW lo.l z) (qV aW lt.l z)=oq aW G lb.l lo.l lt.l z:=rfl
 rw[hu]at c1
 simp[eP]at c1
 have hLs:(q.l.take (i+1)).filterMap (fun id=>(oq aW G lb.l lo.l lt.l id).1)=(q.l.take i).filterMap (fun id=>(oq aW G lb.l lo.l lt.l id).1)++(oq aW G lb.l lo.l lt.l z).1.toList:=by rw[jh,hx,oP,List.filterMap_append];rfl
 have T4:=zak (nn:=nn) (p:=fun id=>(oq aW G lb.l lo.l lt.l id).2) hx
 have uW:dS X.z 0 X.z=X.z:=by have:=z8 (B:=X.z) (A:=[]) (R:=X.z) (k:=0) rfl Z;simp_all
 have hwr:∀ x,dS X.z 0 (g x)=g x:=fun x=>by have:=z8 (B:=g x) (A:=[]) (R:=X.z) (k:=0) rfl (by grind);simp_all
 have hcx:∀ x:H,(IV.agg (g x)).cells=g x:=fun x=>rfl
 have hcz:(IV.agg X.z).cells=X.z:=rfl
 have hlc:(((q.l.take i).filter fun id=>(oq aW G lb.l lo.l lt.l id).2).map fun id=>(nn,id)).length<=i:=by rw[qE];have h1:=zlv (fun id=>(oq aW G lb.l lo.l lt.l id).2) (q.l.take i);simp_all
 have IZ:((q.l.take i).filterMap fun id=>(oq aW G lb.l lo.l lt.l id).1).length<=i:=by have h1:=znp (fun id=>(oq aW G lb.l lo.l lt.l id).1) (q.l.take i);simp_all
 have EO:∀(lk:Nat->Nat->Option aP)(a b:IV),bW lk 2 (.slC [a,b] 1 2 true)=some ([a,b],1):=fun lk a b=>rfl
 generalize oq aW G lb.l lo.l lt.l z=u at c1 hLs T4
 let⟨o,cf⟩:=u
 cases o with
 |none =>
  cases cf
  .simp[Option.elim,JX]at c1
   simp[zne,gF]at hLs
   simp[nv,if_false,gF]at T4
   rw[←hLs]at hO
   rw[←T4]at hOc
   simp only[V0,seval,af,h,zc q h,gE,ev lb IB,ev lo IOq',ev lt IT,c1,uW,hcz,hzs,hz,eB,cI,hw]
   exact bp Z _ ⟨_,lv,lc,hO.more _,hOc.more _,hD,rfl,by simp[V0,seval,af,hw]⟩
  .simp[Option.elim,JX]at c1
   simp[zne,gF]at hLs
   rw[bU rfl]at T4
   rw[←hLs]at hO
   obtain⟨e,lc',J2,bz,Ln,cL,Wt,_⟩:=zfw (Pre:=[aH [aB nn,.fn k8 [] [],.slC fs nf 2 tf]]) (n0:=J.length+1+1+1) (slot:=0) (k:=2) (ah:=bH) (R:=[.free,aH X.z,.free]) zG rfl hOc hO hD.symm (ys:=[(nn,z)]) M (iQ (zmm hlc (cI 1)) Z) (show J.length+1+1+1+0=1+(J.length+2) by omega) rfl rfl
   rw[←T4]at Ln
   simp[gu,fP,eT,jm,lV,fB,gq,gF,eB]at bz
   simp only[V0,seval,af,h,zc q h,gE,ev lb IB,ev lo IOq',ev lt IT,c1,uW,hcz,hzs,hz,eB,cI,rep,zh,zl,zq,EO,bz,hw]
   exact bp Z _ ⟨J2,lv,lc',cL,Ln,Wt.symm,rfl,by simp[V0,seval,af,hw,bz]⟩
 |some a =>
  have Wd:rep X.z 1=X.z:=by simp[rep]
  have hsg:∀(lk:Nat->Nat->Option aP),bW lk X.sz (.slC (g a) 1 X.sz true)=some (g a,1):=fun lk=>by have hl:=hg a;simp only[bW,Ba];unfold seg;rw[zi,bU Z,s7,fT Z];rfl
  have pK:bB (g a) 0 X.sz=some (g a):=by have h2:=yk (l:=g a);grind
  simp[Option.elim,znf]at c1
  simp[oP]at hLs
  obtain⟨e,cH,J2,bz,cL,Ln,Wt,hJ2⟩:=zfw (Pre:=[aH [aB nn,.fn k8 [] [],.slC fs nf 2 tf]]) (n0:=J.length+1+1+1) (slot:=0) (k:=2) (ah:=bH) (R:=[.free,aH (g a),.free]) hg rfl hO hOc hD (ys:=[a]) M (iQ (zmm IZ (cI 1)) Z) (show J.length+1+1+1+0=1+(J.length+2) by omega) rfl (by simp[*])
  rw[←hLs]at cL
  simp[gu,fP,eT,jm,fB,gq,gF,eB]at bz
  cases cf
  .simp[nv,if_false,gF]at T4
   rw[←T4]at Ln
   simp only[V0,seval,af,h,zc q h,gE,ev lb IB,ev lo IOq',ev lt IT,c1,hwr,hcx,nh,hg,hz,pK,Wd,eB,cI,zh,zl,zq,hsg,bz,hw]
   exact bp Z _ ⟨J2,cH,lc,cL,Ln,Wt,rfl,by simp[V0,seval,af,hw,bz]⟩
  .rw[bU rfl]at T4
   obtain⟨e3,lc',J3,Pq,afc,I8,Lo,_⟩:=zfw (Pre:=[aH [aB nn,.fn k8 [] [],.slC fs nf 2 tf]]) (J:=J2) (n0:=J2.length+1) (slot:=0) (k:=0) (ah:=bH) (R:=[.free]) zG rfl Ln cL Wt.symm (ys:=[(nn,z)]) M (iQ (zmm hlc (cI 1)) Z) (show J2.length+1+0=1+(J2.length+0) by omega) rfl rfl
   rw[←T4]at afc
   simp[gu,fP,eT,jm,lV,fB,gq,gF,eB]at Pq
   simp only[V0,seval,af,h,zc q h,gE,ev lb IB,ev lo IOq',ev lt IT,c1,hwr,hcx,nh,hg,hz,pK,Wd,eB,cI,zh,zl,zq,hsg,bz,Pq,EO,rep,hw]
   exact bp Z _ ⟨J3,cH,lc',I8,afc,Lo.symm,rfl,by simp[V0,seval,af,hw,bz,Pq]⟩
theorem ID(hS:bk S)(h4:4<=Nc)(hX:A8 S X)(hmd:X.md=1)(hz:X.z.length=X.sz)(hg:∀ a,(g a).length=X.sz)(nh:∀ a,(g a).all IV.scalar=true)(sC:∀ a,∀ x∈g a,Fz 6 x)(hzs:X.z.all IV.scalar=true)(hid:∀ x,aM S 4 k8 [.agg (g x)] (aB (aW x)))
  (G:List ((H->H->Bool)×(H->H->H))) (hone:∀{b o t:Option H}{vb vo vt:IV},mP g X.sz b vb->mP g X.sz o vo->mP g X.sz t vt->aM S 60040 X.one [eP nn k8 fs nf tf,vb,vo,vt] (.tuple [.agg ((jr G b o t).1.elim X.z g),.bool (jr G b o t).1.isSome,.bool (jr G b o t).2]))
  (lb lo lt:aR X.sz g) (h1:lb.l.length<=1000) (h2:lo.l.length<=1000) (h3:lt.l.length<=1000) {id:Nat}  {aa:aS} (hm:Nc+300000<=m) (sr:aa[id]?=some .free) (jM:(nE aW G nn lb.l lo.l lt.l).length<9223372036854775808) :
  ∃ r,aL aO S m d ah aJ aa id X.RT [eP nn k8 fs nf tf,lb.v,lo.v,lt.v]=some r/\jf g X.sz (pU aW G lb.l lo.l lt.l) (bZ zG (nE aW G nn lb.l lo.l lt.l) jM) d id aa r:=by
 obtain⟨m,rfl⟩:=gv m 10
 refine zF (hX.RT.1 _) hX.RT.2 (show X.md≠2/\X.md≠3/\¬ 4<=X.md by omega) (bP rfl) fun t af=>CF hS h4 hX hz hg nh sC hzs hid G hone lb lo lt h1 h2 h3 hm af fun t' Pre J lv lc hO hC hD ht=>?_
 simp[za,zb]at ht
 obtain⟨r,jE,hr2⟩:=uT hg zG sC (fun a x hx=>(zck a x hx).le Z) jM hO hC hD sr
 refine⟨.inr rfl,.tuple [lv,lc],r,?_,by rw[show(GA X).mode=1 from hmd];omega,hr2⟩
 simp[GA,V0,seval,ht]
theorem PC{i:gP}{args:List IV}{aa:aS}{id:Nat}{Q:dI×IV×List aP->Prop}(hS:S f args=none)(hi:aO f=some i)(hm:i.mode=7)(hl:args.length<=i.ntmps)
  (h:∀ t,aN i.ntmps t (slotsOf 0 args)->Ex (aL aO S m) (d+1) (fun l=>if l=d then aJ else ah l) m i.body (fun o st=>(o=.normal∨o=.ret)/\∃ v r,bh (d+1) (fun l=>if l=d then aJ else ah l) st i.res=some v/\kW m d st.aa aa id 7 v=some r/\Q r) ⟨t,[]⟩):∃ r,aL aO S (m+1) d ah aJ aa id f args=some r/\Q r:=by
 obtain ⟨o,st,h1,h2,v,r,h3,h4,h5⟩:=h (args++List.replicate (i.ntmps - args.length) (.tuple [])) ⟨by grind,fun p hp=>by
  let⟨j,h1,h2⟩:=ym hp;rw[yc,EB,h1,eB,pN (ew.1 h2).1,h2];rfl⟩
 refine⟨r,?_,h5⟩
 simp[aL,hS,hi,hm,b9 (show ¬ (7=2) by simp),b9 (show ¬ (7=3) by simp),b9 (show ¬ 4<=7%7 by simp),zi,h1]
 rcases h2 with rfl|rfl<;>simp[ended,h3,h4]
theorem OC(hS:bk S)(h4:4<=Nc)(hX:A8 S X)(hmd:X.md=7)(hz:X.z.length=X.sz)(hg:∀ a,(g a).length=X.sz)(nh:∀ a,(g a).all IV.scalar=true)(sC:∀ a,∀ x∈g a,Fz 6 x)(hzs:X.z.all IV.scalar=true)(hid:∀ x,aM S 4 k8 [.agg (g x)] (aB (aW x)))
  (G:List ((H->H->Bool)×(H->H->H))) (hone:∀{b o t:Option H}{vb vo vt:IV},mP g X.sz b vb->mP g X.sz o vo->mP g X.sz t vt->aM S 60040 X.one [eP nn k8 fs nf tf,vb,vo,vt] (.tuple [.agg ((jr G b o t).1.elim X.z g),.bool (jr G b o t).1.isSome,.bool (jr G b o t).2]))
  (lb lo lt:aR X.sz g) (h1:lb.l.length<=1000) (h2:lo.l.length<=1000) (h3:lt.l.length<=1000) {id:Nat}  {aa:aS} (hm:Nc+300000<=m) (sr:aa[id]?=some .free) (jM:(pU aW G lb.l lo.l lt.l).length<9223372036854775808) :
  ∃ r,aL aO S m d ah aJ aa id X.RT [eP nn k8 fs nf tf,lb.v,lo.v,lt.v]=some (swapT r)/\jf lV 2 (nE aW G nn lb.l lo.l lt.l) (bZ hg (pU aW G lb.l lo.l lt.l) jM) d id aa r:=by
 obtain⟨m,rfl⟩:=gv m 10
 have main:∃ r',aL aO S (m+9+1) d ah aJ aa id X.RT [eP nn k8 fs nf tf,lb.v,lo.v,lt.v]=some r'/\∃ r,r'=swapT r/\jf lV 2 (nE aW G nn lb.l lo.l lt.l) (bZ hg (pU aW G lb.l lo.l lt.l) jM) d id aa r:=by
  refine PC (hX.RT.1 _) hX.RT.2 hmd (bP rfl) fun t af=>CF hS h4 hX hz hg nh sC hzs hid G hone lb lo lt h1 h2 h3 hm af fun t' Pre J lv lc hO hC hD ht=>?_;simp[za,zb]at ht;obtain⟨r,jE,hr2⟩:=uT (n:=m) zG hg (fun a x hx=>(zck a x hx).le Z) sC jM hC hO hD.symm sr;refine⟨.inr rfl,.tuple [lv,lc],swapT r,?_,?_,r,rfl,hr2⟩
  .simp[GA,V0,seval,ht]
  .show(leave (m+9) d (Pre++J) aa id 1 (.tuple [lc,lv])).map swapT=_;grind
 grind
end
def dmN:DM:=⟨dkN,103,40,7⟩
def dmA:DM:=⟨dkA,104,41,1⟩
def dmF:DM:=⟨dkF,105,42,1⟩
def cTk(o n:Nat)(ag:Bool):gP:=⟨9,[],(.seq (.region false 1 [⟨(.some 3),(.box (.tmp 1) 0),.none,[]⟩] []) (.region false 0 [⟨(.some 4),(.mov (.tmp 0)),.none,[]⟩,⟨(.some 5),(.faddr o (.tmp 3)),.none,[]⟩,⟨(.some 6),(.load ag n (.tmp 5)),.none,[]⟩,⟨(.some 7),(.nilchk (.tmp 4)),.none,[]⟩,⟨(.some 8),(.faddr o (.tmp 7)),.none,[]⟩,⟨.none,(.store n (.tmp 8) (.tmp 6)),.none,[]⟩] [])),2⟩
theorem Qi(hS:bk S):A8 S dmN:=by refine⟨Aq hS,?_,?_⟩<;>exact⟨fun _=>Cz hS Φ,rfl⟩
theorem Qk(hS:bk S):A8 S dmA:=by refine⟨Av hS,?_,?_⟩<;>exact⟨fun _=>Cz hS Φ,rfl⟩
theorem Qj(hS:bk S):A8 S dmF:=by refine⟨Au hS,?_,?_⟩<;>exact⟨fun _=>Cz hS Φ,rfl⟩
def AY(S:bX)(g:H->List IV)(f:FuncId)(tk:H->H->H):Prop:=∀(r y:H)(m:Nat),100<=m->∀ D ah aJ aa b,aa[b]?=some (aH (g r))->∃ J,∀ id,aL aO S m D ah aJ aa id f [.ptrM D b 0,.agg (g y)]=some (.x,.tuple [],aa.set b (aH (g (tk r y)))++J)
theorem Xo{g:H->List IV}{tk:H->H->H}{o:Nat}{ag:Bool}(hS:∀ args,S f args=none)(hF:aO f=some (cTk o n ag))(nh:∀ y,(g y).all IV.scalar=true)(h:∀ y,∃ c v,bB (g y) o n=some c/\ql ag c=some v/\v.cells.length=n/\v.cells.all IV.scalar=true/\∀ r,o+n<=(g r).length/\dS (g r) o v.cells=g (tk r y)):AY S g f tk:=by
 intro r y m hm D ah aJ aa b hb;obtain⟨m,rfl⟩:=gv m 1;let⟨c,v,h1,h2,h3,h4,h5⟩:=h y;let⟨h5,h6⟩:=h5 r;obtain⟨v',aU,hc,rfl,J,rfl⟩:∃ v' aU,(∀ id,aL aO S (m+1) D ah aJ aa id f [.ptrM D b 0,.agg (g y)]=some (.x,v',aU))/\v'=.tuple []/\∃ J,aU=aa.set b (aH (g (tk r y)))++J:=by refine yq (hS _) hF rfl (bP rfl) fun t af=>?_;simp only[slotsOf,za,zb,cTk]at af;simp only[cTk,V0,seval,af,nh,Zz,(fun R=>by grind:∀ R:aS,(aa++R)[b]?=some (aH (g r))),(fun R x=>zl1 _ _ (ew.1 hb).1:∀(R:aS)(x:aP),(aa++R).set b x=aa.set b x++R),h1,h2,h3,h4,h5,h6,yB,M5];grind
 simp_all
def adx(z:List IV)(sz:Nat):gP:=⟨11,[(.tmp 2)],(.seq (.region false 0 [⟨(.some 2),(.mov (.const .nilsl)),.none,[]⟩] []) (.seq (.region false 1 [⟨(.some 4),(.mov (.tmp 0)),.none,[]⟩,⟨(.some 5),(.len 1 (.tmp 4)),.none,[]⟩,⟨(.some 6),(.mks z sz (.tmp 5) (.tmp 5) 0),.none,[]⟩,⟨(.some 3),(.mov (.tmp 6)),.none,[]⟩] []) (.seq (.region false 0 [⟨(.some 7),(.mov (.tmp 3)),.none,[]⟩,⟨(.some 8),(.mov (.tmp 0)),.none,[]⟩,⟨(.some 9),(.cpy sz (.tmp 7) (.tmp 8)),.none,[]⟩] []) (.seq (.region false 0 [⟨(.some 10),(.mov (.tmp 3)),.none,[]⟩,⟨(.some 2),(.mov (.tmp 10)),.none,[]⟩] []) .ret)))),0⟩
def X7(d n0:Nat)(aa:aS)(z:List IV)(sz:Nat)(v w:IV)(slot:Nat):jI :=
 match lg v,lg w with
  |some a,some b=>if a=b/\a<=bound then dD aa (n0+slot) (aH (lit (rep z a))) (.slM d (n0+slot) 0 a a sz false)else none
  |_,_=>none
def UA(d:Nat)(ah:bq)(aJ aa:aS)(sz:Nat)(v w:IV):jI :=
 match v,bW (look d ah aJ) sz w with
  |.slM l i off len _ sz0 _,some (xs,n)=>if sz0=sz/\n=len then if n=0 then some (.x,aB 0,aa)else lS d aa l i off xs (aB n)else none
  |_,_=>none
variable {C:Call}
def Un{aa:aS}{t:List IV}(z:List IV)(sz:Nat)(x y:bD)(slot:Nat):bY C d ah n0 aJ aa t (.mks z sz x y slot)=X7 d n0 aa z sz (ρ t x) (ρ t y) slot:=aI
def Uo{aa:aS}{t:List IV}(sz:Nat)(x y:bD):bY C d ah n0 aJ aa t (.cpy sz x y)=UA d ah aJ aa sz (ρ t x) (ρ t y):=aI
def qD{g:H->List IV}(hg:∀ a,(g a).length=sz)(q:aR sz g):aR sz g:=gB hg q.l q.l.length false rfl q.eZ
theorem CO{g:H->List IV}{z:List IV}(hS:∀ args,S f args=none)(hF:aO f=some (adx z sz))(hz:z.length=sz)(hg:∀ a,(g a).length=sz)(nh:∀ a,(g a).all IV.scalar=true)(sC:∀ a,∀ x∈g a,Fz 1 x)(q:aR sz g)(hq:q.l.length<=1000000):aM S 5 f [q.v] (qD hg q).v:=by
 refine zr (hS _) hF rfl (bP rfl) 4 fun m hm d ah t af=>?_;simp[slotsOf,za,zb,adx]at af;have hfl:=zj hg (l:=q.l);have hrl:(rep z q.l.length).length=q.l.length*sz:=by rw[yN,hz]
 have hsc:(q.l.flatMap g).all IV.scalar=true:=nu.2 fun x hx=>by grind
 have hwr:dS (rep z q.l.length) 0 (q.l.flatMap g)=q.l.flatMap g:=by have:=z8 (B:=q.l.flatMap g) (A:=[]) (R:=rep z q.l.length) rfl Z;grind
 have hmk:X7 d 0 [.free] z sz (aB (q.l.length:Nat)) (aB (q.l.length:Nat)) 0=some (.a,.slM d 0 0 q.l.length q.l.length sz false,[aH (rep z q.l.length)]):=by unfold X7;rw[zY];simp[Vn,bU (show q.l.length<=bound by unfold bound;omega),zi,eB];rfl
 obtain⟨e,v,hcp⟩:∃ e v,∀ out' aJ,UA d out' aJ [aH (rep z q.l.length)] sz (.slM d 0 0 q.l.length q.l.length sz false) q.v=some (e,v,[aH (q.l.flatMap g)]):=by
  by_cases h0:q.l.length=0
  .refine⟨.x,aB 0,fun out' aJ=>?_⟩;unfold UA;rw[zB];grind
  .refine⟨.x,aB (q.l.length:Nat),fun out' aJ=>?_⟩;unfold UA;rw[zB];simp only[Vn,if_true,b9 h0];unfold lS;simp only[rH,Vn,bU (show 0+(q.l.flatMap g).length<=(rep z q.l.length).length/\(q.l.flatMap g).all IV.scalar=true from⟨Z,hsc⟩),hwr,zi,RP]
 simp only[adx,V0,seval,af,Un,hmk,Uo,hcp,yj];exact⟨_,rfl,yo sC Z rfl hg rfl⟩
def K7(hS:bk S)(q:aR 2 Pt.c)(hq:q.l.length<=1000000):aM S 5 43 [q.v] (qD Pt.aV q).v :=
 CO (z:=[aB 0,aB 0]) (fun _=>hS _ _ M M M M) rfl rfl Pt.aV (fun _=>rfl) zch q hq
theorem K8(hS:bk S)(q:aR 1 aK)(hq:q.l.length<=1000000):aM S 5 45 [q.v] (qD ze q).v :=
 CO (z:=[aB 0]) (fun _=>hS _ _ M M M M) rfl rfl ze (fun _=>rfl) (fun a x hx=>by
  simp[aK,eG,gm,gw]at hx;rw[hx];exact zp) q hq
variable {tg tt:Bool}
section
theorem DR(hS:bk S){aa:aS}{id:Nat}(hid:aa[id]?=some .free)(hm:8<=m):aL aO S m d ah aJ aa id 148 [.slC [.slC [aB 0] 1 1 tg] 1 1 tt]=some (.a,.slM d id 0 1 1 1 false,aa.set id (aH [aB 0])):=by
 obtain⟨m,rfl⟩:=gv m 1;have hg:=fun d ah aJ=>Dg hS 1 Z Z m Z d ah aJ [.free] 0 rfl;have main:∃ r,aL aO S (m+1) d ah aJ aa id 148 [.slC [.slC [aB 0] 1 1 tg] 1 1 tt]=some r/\r=(.a,.slM d id 0 1 1 1 false,aa.set id (aH [aB 0])):=by
  refine zF (hS _ _ M M M M) rfl Δ (bP rfl) fun t af=>?_;simp[slotsOf,za,zb,i148]at af;generalize(fun l=>if l=d then aJ else ah l:bq)=bH
  obtain⟨k,rfl⟩:∃ k,m=k+1+1+1+1:=⟨m-4,Z⟩;have er:rep [IV.int .i64 0] 1=[aB 0]:=rfl;have n1:iv ((1:Nat):Int)=aB 1:=rfl;have hc:∀(lk:Nat->Nat->Option aP),bW lk 1 (.slC [aB 0] 1 1 tg)=some ([aB 0],1):=fun lk=>rfl;simp only[er,n1]at hg;simp only[i148,V0,seval,af,yJ,yK,(zA rfl Z Z:aT .i64 1=1),(show decide ((0:Int)<1)=true by rfl),(show decide ((1:Int)<1)=false by rfl),Yp (show 0<1 by omega),YJ,(zA rfl Z Z:aT .i64 (0+1)=1),nlt,hg,zh,zl,zq,hc,(fun n0 slot=>Yo (d:=d+1) (n0:=n0) (sz:=1) (len:=0) (cap:=1) (n:=1) (slot:=slot) (ah:=bH) (c:=[aB 0]) (new:=[aB 0]) (J:=[.free]) (tight:=false) Z Z Z M rfl),qZ];refine⟨.inr trivial,_,_,rfl,?_,rfl⟩;have hs:seg [IV.int .i64 0] 0 (1*1)=some [aB 0]:=rfl;have hf:∀ o:aS,[IV.int .i64 0].mapM (freeze (k+1+1+1+1) (d+1) o)=some [aB 0]:=fun o=>rfl;simp[leave,if_true,handed,rH,hs,hf,dD,hid,zi]
 grind
theorem U2(hS:bk S)(x y:Int):∀ m,4<=m->∀ d ah aJ aa id,aL aO S m d ah aJ aa id 151 [aB x,aB y]=some (.r,.bool (decide (x<y)),aa):=by refine zg (hS _ _ M M M M) rfl rfl (bP rfl) 3 Z zk fun m hm d ah t af=>?_;simp only[slotsOf,za,zb,i151]at af;simp only[i151,V0,seval,af,(fun x d ah aJ aa id=>u0 hS x m Z d ah aJ aa id)]
theorem UM(hS:bk S)(x:Int):∀ m,2<=m->∀ d ah aJ aa id,aL aO S m d ah aJ aa id 152 [aB x]=some (.r,.bool false,aa):=by refine zg (hS _ _ M M M M) rfl rfl (bP rfl) 1 Z zk fun m hm d ah t af=>?_;simp[slotsOf,za,zb,i152]at af;simp[i152,V0,seval,af,(show(x != x)=false by simp)]
theorem UG(hS:bk S)(n:Int){l cap:Nat}{aa:aS}{id:Nat}(hl:l<=d)(hb:(if l=d then aJ else ah l)[b]?=some (aH [aB 0]))(hm:20<=m):∃ k:Int,aL aO S m d ah aJ aa id 109 [.slM l b 0 1 cap 1 tg,aB n]=some (.r,.tuple [aB k,.bool (n==0)],aa):=by
 obtain⟨m,rfl⟩:=gv m 1;have main:∃ r,aL aO S (m+1) d ah aJ aa id 109 [.slM l b 0 1 cap 1 tg,aB n]=some r/\∃ k:Int,r=(.r,.tuple [aB k,.bool (n==0)],aa):=by
  refine zF (hS _ _ M M M M) rfl Δ (bP rfl) fun t af=>?_;simp only[slotsOf,za,zb,i109]at af;have mB:¬ l=d+1:=Z;have iN:l<d+1:=Z;have hb':=hb;obtain⟨k,rfl⟩:∃ k,m=k+1+1+1+1+1+1:=⟨m-6,Z⟩;have c0:=fun y d ah aJ aa id=>U2 hS 0 y (k+1+1+1+1+1+1) Z d ah aJ aa id;have c1:=fun x d ah aJ aa id=>UM hS x (k+1+1+1+1+1+1) Z d ah aJ aa id;have w1:aT .i64 1=1:=zA rfl Z Z;have w01:aT .i64 (0+1)=1:=zA rfl Z Z;have l01:decide ((0:Int)<1)=true:=by rfl
  have l11:decide ((1:Int)<1)=false:=by rfl
  have l00:decide ((0:Int)<0)=false:=by rfl
  have u1:aT .u64 1=1:=rfl;have sh1:Fc .shr .u64 1 1=some (.int .u64 0):=rfl;have i0:aT .i64 0=0:=rfl;have ia:∀ aa,cu aa 1 (.slM l b 0 1 cap 1 tg) (aB 0)=some (.p,.ptrM l b 0,aa):=fun aa=>by rfl
  by_cases h:(0:Int)<n
  .have hne:(n==0)=false:=by grind
   simp only[i109,V0,seval,af,yJ,yK,w1,w01,l01,l11,u1,sh1,i0,ia,mB,iN,hb',c0,c1,(decide_eq_true h)];exact⟨.inr trivial,_,_,rfl,rfl,1,by grind⟩
  .have d1:=decide_eq_false h;rw[(show(n==0)=((0:Int)==n) by grind)];cases hz:((0:Int)==n)
   .exact xcd
   .exact xcd
 grind
theorem X8(hS:bk S)(n:Int){l cap:Nat}{aa:aS}{id:Nat}(hl:l<=d)(hk:(if l=d then aJ else ah l)[k]?=some (aH [.slM l b 0 1 cap 1 tg]))(hb:(if l=d then aJ else ah l)[b]?=some (aH [aB 0]))(hm:30<=m):aL aO S m d ah aJ aa id 108 [aB n,.ptrM l k 0]=some (.r,.bool (!(n==0)),aa):=by
 refine ZJ (hS _ _ M M M M) rfl rfl (bP rfl) Z hm zk fun m hm t af=>?_;simp only[slotsOf,za,zb,i108]at af;have hk':((fun l=>if l=d then aJ else ah l:bq) l)[k]?=some (aH [.slM l b 0 1 cap 1 tg]):=hk
 have hb':((fun l=>if l=d then aJ else ah l:bq) l)[b]?=some (aH [aB 0]):=hb
 generalize(fun l=>if l=d then aJ else ah l:bq)=bH at hk' hb' ⊢
 have c:=fun aJ aa id=>UG hS n (l:=l) (d:=d+1) (cap:=cap) (b:=b) (tg:=tg) (ah:=bH) (aJ:=aJ) (aa:=aa) (id:=id) (m:=m) Z (by grind) Z;obtain⟨f,c0⟩:∃ f:List aP->List aP->Nat->Int,∀ o w i,aL aO S m (d+1) bH o w i 109 [.slM l b 0 1 cap 1 tg,aB n]=some (.r,.tuple [aB (f o w i),.bool (n==0)],w):=⟨fun o w i=>(c o w i).choose,fun o w i=>(c o w i).choose_spec⟩;simp[i108,V0,seval,af,(show ¬ l=d+1 by omega),(show l<d+1 by omega),hk',c0]
theorem y5{p:Int->Bool}{xs:List Int}(h:xs.length<65536):((gG xs).filter p).length<9223372036854775808:=by have h1:=Zc xs;grind
def nz(n:Int):Bool:=!(n==0)
theorem Gy(hS:bk S)(h4:4<=Nc)(xs:List Int)(hn:xs.length<65536){l cap:Nat}{aa:aS}{id:Nat}(h:Mv d ah aJ lv xs)(hl:l<=d)(hk:(if l=d then aJ else ah l)[k]?=some (aH [.slM l b 0 1 cap 1 tg]))(hb:(if l=d then aJ else ah l)[b]?=some (aH [aB 0])) :
  ∀ m,Nc+2*xs.length+100<=m->aL aO S m d ah aJ aa id 107 [lv,.fn 108 [] [.ptrM l k 0]]=some (.r,(bZ ze ((gG xs).filter nz) (y5 hn)).v,aa):=by
 intro m hm
 obtain⟨m,rfl⟩:=gv m 3
 have main:∃ r,aL aO S (m+3) d ah aJ aa id 107 [lv,.fn 108 [] [.ptrM l k 0]]=some r/\r=(.r,(bZ ze ((gG xs).filter nz) (y5 hn)).v,aa):=by
  refine zF (i:=i107) (hS _ _ M M M M) rfl Δ (bP rfl) fun t af=>?_;simp only[slotsOf,za,zb,i107]at af;have mB:¬ l=d+1:=Z;have hk':((fun l=>if l=d then aJ else ah l:bq) l)[k]?=some (aH [.slM l b 0 1 cap 1 tg]):=hk
  have hb':((fun l=>if l=d then aJ else ah l:bq) l)[b]?=some (aH [aB 0]):=hb
  rcases h with⟨rfl,rfl⟩|⟨l2,b2,QG,tg2,hne,hcap,iN,rfl,fE⟩
  .simp only[i107,V0,seval,af,Vz,(fun d ah aJ aa id tt=>zdg hS (Nc:=Nc) (tt:=tt) (d:=d) (ah:=ah) (aJ:=aJ) (aa:=aa) (id:=id) (m:=m+2) Z),yJ,yK,(show decide ((0:Int)<0)=false by rfl)];exact xdf
  .have hl3:¬ l2=d+1:=Z;have ag8:((fun l=>if l=d then aJ else ah l:bq) l2)[b2]?=some (aH (xs.flatMap aK)):=fE
   generalize(fun l=>if l=d then aJ else ah l:bq)=bH at ag8 hk' hb' ⊢
   obtain⟨c,hc1,nM,MQ⟩:=zde hS h4 xs (MH.2 hne) hn (l:=l2) (b:=b2) (cap:=QG) (tg:=tg2) (tt:=true) (d:=d+1) (ah:=bH) (aJ:=[.free]) (aa:=[.free]) (id:=0) Z (by grind) rfl (m+2) Z;have ou:=Zc xs;have cm:=fun n aJ aa id=>X8 hS n (l:=l) (d:=d+1) (k:=k) (b:=b) (cap:=cap) (tg:=tg) (ah:=bH) (aJ:=aJ) (aa:=aa) (id:=id) (m:=m+2) Z (by grind) (by grind) Z;simp only[i107,V0,seval,af,Vz,MQ];refine zm ((gG xs).length) (fun i st=>∃(J:aS)(lc:IV),bE aK 1 (d+1) 1 J lc (((gG xs).take i).filter nz)/\st.aa=aH (c.flatMap aK)::J/\aN 24 st.t [(1,.fn 108 [] [.ptrM l k 0]),(4,lc),(9,.slM (d+1) 0 0 (gG xs).length xs.length 1 false),(10,iv ((gG xs).length:Nat)),(11,iv i)]) Z ⟨_,.nilsl,.inl ⟨rfl,rfl⟩,rfl,by simp[V0,seval,af,MQ,cZ]⟩ ?_;rintro i ⟨t,bJ⟩ KA hi ⟨J,lc,hO,ho,af⟩ bp bK bQ;subst ho;simp[za,zb,zf]at af;by_cases h:i<(gG xs).length
   .have hx:(gG xs)[i]?=some (gG xs)[i]:=dw h;generalize(gG xs)[i]=x at hx;have hrd:bB (c.flatMap aK) (i*1) 1=some [aB x]:=zd ze 0 1 (by grind) Z;have kX:∀ aa,cu aa 1 (.slM (d+1) 0 0 (gG xs).length xs.length 1 false) (aB (i:Int))=some (.p,.ptrM (d+1) 0 (i*1),aa):=fun aa=>by have:=zo (aa:=aa) (z:=1) (l:=d+1) (b:=0) (off:=0) (cap:=xs.length) (z':=1) (tight:=false) (k:=.i64) h;grind
    have hw:=zt i;have pL:((gG xs).take (i+1)).filter nz=((gG xs).take i).filter nz++(if nz x then[x]else[]):=by rw[show(gG xs).take (i+1)=(gG xs).take i++[x] by rw[jh,hx];rfl,MY,MZ,List.filter_nil]
    cases hq:nz x
    .rw[hq,b9 Bool.false_ne_true,gF]at pL;rw[←pL]at hO;unfold nz at hq;simp only[V0,seval,af,h,kX,hrd,cm,hq,hw];exact bp Z _ ⟨_,lc,hO.more _,rfl,by simp[V0,seval,af,hq,hw]⟩
    .rw[hq,bU rfl]at pL;unfold nz at hq;obtain⟨e,lc',J2,bz,cL⟩:=zI (Pre:=[aH (c.flatMap aK)]) (n0:=J.length+1+1) (slot:=0) (k:=1) (ah:=bH) (R:=[.free,.free]) ze hO (ys:=[x]) M (iQ (zmm (iQ (zlv ..) (by grind):(((gG xs).take i).filter nz).length<=i) (cI 1)) Z) (show J.length+1+1+0=1+(J.length+1) by omega) rfl rfl;rw[←pL]at cL;simp[gu,fP,eT,jm,aK,zf,fB,gq,gF,eB]at bz;simp only[V0,seval,af,h,kX,hrd,cm,hq,hw,rep,zh,zl,zq,zw,bz];exact bp Z _ ⟨J2,lc',cL,rfl,by simp[V0,seval,af,hq,hw,bz]⟩
   .simp[V0,seval,af,h];refine bK _ _ ?_;rw[(fT Z)]at hO;simp only[V0,seval,af];refine⟨.inr trivial,_,_,rfl,?_,rfl⟩;have hf:=yy (Pre:=[aH (c.flatMap aK)]) (m:=m+2) ze (fun a x hx=>by
     simp[aK,eG,gm,gw]at hx;rw[hx];exact zp) Z (y5 hn) hO
    show(freeze (m+2) (d+1) ([aH (c.flatMap aK)]++J) lc).map (fun v'=>(dI.r,v',aa))=_;grind
 grind
theorem K4(hS:bk S)(h4:4<=Nc)(xs:List Int)(hn:xs.length<65536){aa:aS}{id:Nat}(h:Mv d ah aJ lv xs) :
  ∀ m,Nc+2*xs.length+200<=m->aL aO S m d ah aJ aa id 44 [lv,.slC [aB 0] 1 1 tt]=some (.r,(bZ ze ((gG xs).filter nz) (y5 hn)).v,aa):=by
 intro m hm
 obtain⟨m,rfl⟩:=gv m 3
 have main:∃ r,aL aO S (m+3) d ah aJ aa id 44 [lv,.slC [aB 0] 1 1 tt]=some r/\r=(.r,(bZ ze ((gG xs).filter nz) (y5 hn)).v,aa):=by
  refine zF (hS _ _ M M M M) rfl Δ (bP rfl) fun t af=>?_;simp only[slotsOf,za,zb,i44]at af;have hO:Mv (d+1) (fun l=>if l=d then aJ else ah l) [aH [aB 0],aH [.slM (d+1) 0 0 1 1 1 false],.free] lv xs:=by
   rcases h with h|⟨l2,b2,QG,tg2,hne,hcap,iN,rfl,fE⟩
   .exact .inl h
   .refine .inr ⟨l2,b2,QG,tg2,hne,hcap,Z,rfl,?_⟩;grind
  generalize(fun l=>if l=d then aJ else ah l:bq)=bH at hO ⊢
  obtain⟨c,hc1,nM,MQ⟩:=zfo (Nc:=Nc) hS [0] M M (v:=.slC [.slC [aB 0] 1 1 tt] 1 1 true) (d:=d+1) (ah:=bH) (aJ:=[.free,.free]) (aa:=[.free,.free]) (id:=0) rfl (fun m hm Cp aU id' ac0=>DR hS ac0 hm) (m+2) (by grind);have hn0:gG [0]=[0]:=rfl;have hc0:c=[0]:=by grind
  subst hc0;rw[hn0]at MQ;simp[eT,jm,aK,zf,fB,gq,gF,RP,eB]at MQ;simp only[i44,V0,seval,af,Vz,MQ,Ah,(fun aa id=>Gy hS h4 xs hn (id:=id) (aa:=aa) (k:=1) hO (cI _) (by rw[bU rfl];rfl) (by grind) (m+2) Z)];refine⟨.inr trivial,_,_,rfl,?_,rfl⟩;have hf:=zP (fun a x hx=>by
   simp[aK,eG,gm,gw]at hx;rw[hx];exact zp) (bZ ze ((gG xs).filter nz) (y5 hn)) (m+2) Z (d+1) [aH [aB 0],aH [.slM (d+1) 0 0 1 1 1 false],.free]
  show(freeze (m+2) (d+1) _ _).map (fun v'=>(dI.r,v',aa))=_;grind
 grind
end
abbrev BA:Type:={ a:Ac // a.via.l.length<=50000 }
abbrev BF:Type:={ f:Ft // f.parts.l.length<=50000 }
def BA.c(a:BA):List IV:=a.1.c
def BF.c(f:BF):List IV:=f.1.c
def BA.id(a:BA):Int:=a.1.id
def BF.id(f:BF):Int:=f.1.id
def fN:List (Fd Nd):=[⟨74,75,fun x y=>(x.at'.x==y.at'.x)&&(x.at'.y==y.at'.y),fun r y=>⟨r.id,y.at'⟩⟩]
def fA:List (Fd BA):=[⟨80,82,fun x y=>(x.1.fr==y.1.fr)&&((x.1.to==y.1.to)&&Bf dR x.1.via.l y.1.via.l),fun r y=>⟨⟨r.1.id,y.1.fr,y.1.to,y.1.via,r.1.l,r.1.r⟩,y.2⟩⟩,⟨83,84,fun x y=>x.1.l==y.1.l,fun r y=>⟨⟨r.1.id,r.1.fr,r.1.to,r.1.via,y.1.l,r.1.r⟩,r.2⟩⟩,⟨85,86,fun x y=>x.1.r==y.1.r,fun r y=>⟨⟨r.1.id,r.1.fr,r.1.to,r.1.via,r.1.l,y.1.r⟩,r.2⟩⟩]
def fF:List (Fd BF):=[⟨91,92,fun x y=>x.1.kind==y.1.kind,fun r y=>⟨⟨r.1.id,y.1.kind,r.1.cls,r.1.name,r.1.parts⟩,r.2⟩⟩,⟨93,94,fun x y=>x.1.cls==y.1.cls,fun r y=>⟨⟨r.1.id,r.1.kind,y.1.cls,r.1.name,r.1.parts⟩,r.2⟩⟩,⟨95,96,fun x y=>x.1.name.1.toList==y.1.name.1.toList,fun r y=>⟨⟨r.1.id,r.1.kind,r.1.cls,y.1.name,r.1.parts⟩,r.2⟩⟩,⟨97,99,fun x y=>Bf xO x.1.parts.l y.1.parts.l,fun r y=>⟨⟨r.1.id,r.1.kind,r.1.cls,r.1.name,y.1.parts⟩,y.2⟩⟩]
def SF{g:H->List IV}(P:H->Prop)(q:aR sz g)(h:∀ a∈q.l,P a):aR sz (fun x:{ a:H // P a }=>g x.1):=⟨q.l.attachWith P h,q.v,by
 have e:(q.l.attachWith P h).flatMap (fun x=>g x.1)=q.l.flatMap g:=by simp
 rw[e,List.length_attachWith];exact q.ok,by rw [List.length_attachWith]; exact q.eZ⟩
def aft(hS:bk S):AY S Nd.c 75 (fun r y=>⟨r.id,y.at'⟩):=Xo (fun _=>hS _ _ M M M M) rfl (fun _=>rfl) fun y=>⟨[iv y.at'.x,iv y.at'.y],_,rfl,rfl,rfl,rfl,fun r=>⟨cI 3,rfl⟩⟩
theorem af0(hS:bk S):AY S BA.c 82 (fun r y=>⟨⟨r.1.id,y.1.fr,y.1.to,y.1.via,r.1.l,r.1.r⟩,y.2⟩):=by
 intro r y m hm D ah aJ aa b hb;obtain⟨m,rfl⟩:=gv m 1;have th:=(ew.1 hb).1;obtain⟨v',aU,hc,rfl,J,rfl⟩:∃ v' aU,(∀ id,aL aO S (m+1) D ah aJ aa id 82 [.ptrM D b 0,.agg y.c]=some (.x,v',aU))/\v'=.tuple []/\∃ J,aU=aa.set b (aH (BA.c ⟨⟨r.1.id,y.1.fr,y.1.to,y.1.via,r.1.l,r.1.r⟩,y.2⟩))++J:=by
  refine yq (hS _ _ M M M M) rfl rfl (bP rfl) fun t af=>?_;simp only[slotsOf,za,zb,i82,BA.c,Ac.c]at af;have hg2:∀(R:aS)(x:aP),(aa.set b x++R)[b]?=some x:=fun R x=>by grind
  have hs2:∀(R:aS)(x y:aP),(aa.set b x++R).set b y=aa.set b y++R:=fun R x y=>by simp_all
  have hh:∀(L:aS)(vis:List Nat)(x:aP),(bI vis (L.length+1) (L++[x]))[L.length]?=some x:=fun L vis x=>xb5
  simp[i82,V0,seval,af,hh,(fun R=>by rw[pN th];exact hb:∀ R:aS,(aa++R)[b]?=some (aH [iv r.1.id,iv r.1.fr,iv r.1.to,r.1.via.v,iv r.1.l,iv r.1.r])),(fun R x=>zl1 _ _ th:∀(R:aS)(x:aP),(aa++R).set b x=aa.set b x++R),hg2,hs2,BA.c,Ac.c];refine⟨by simp[comm],?_⟩;simp only[yB,M5];grind
 simp_all
def afz(hS:bk S):AY S BA.c 84 (fun r y=>⟨⟨r.1.id,r.1.fr,r.1.to,r.1.via,y.1.l,r.1.r⟩,r.2⟩):=Xo (fun _=>hS _ _ M M M M) rfl (fun a=>Xh a.1) fun y=>⟨[iv y.1.l],_,rfl,rfl,rfl,rfl,fun r=>⟨J5 rfl,rfl⟩⟩
def afy(hS:bk S):AY S BA.c 86 (fun r y=>⟨⟨r.1.id,r.1.fr,r.1.to,r.1.via,r.1.l,y.1.r⟩,r.2⟩):=Xo (fun _=>hS _ _ M M M M) rfl (fun a=>Xh a.1) fun y=>⟨[iv y.1.r],_,rfl,rfl,rfl,rfl,fun r=>⟨J5 rfl,rfl⟩⟩
def afx(hS:bk S):AY S BF.c 92 (fun r y=>⟨⟨r.1.id,y.1.kind,r.1.cls,r.1.name,r.1.parts⟩,r.2⟩):=Xo (fun _=>hS _ _ M M M M) rfl (fun a=>Sq a.1) fun y=>⟨[iv y.1.kind],_,rfl,rfl,rfl,rfl,fun r=>⟨J5 rfl,rfl⟩⟩
def afw(hS:bk S):AY S BF.c 94 (fun r y=>⟨⟨r.1.id,r.1.kind,y.1.cls,r.1.name,r.1.parts⟩,r.2⟩):=Xo (fun _=>hS _ _ M M M M) rfl (fun a=>Sq a.1) fun y=>⟨[iv y.1.cls],_,rfl,rfl,rfl,rfl,fun r=>⟨J5 rfl,rfl⟩⟩
def afv(hS:bk S):AY S BF.c 96 (fun r y=>⟨⟨r.1.id,r.1.kind,r.1.cls,y.1.name,r.1.parts⟩,r.2⟩):=Xo (fun _=>hS _ _ M M M M) rfl (fun a=>Sq a.1) fun y=>⟨[.str y.1.name.1],_,rfl,rfl,rfl,rfl,fun r=>⟨J5 rfl,rfl⟩⟩
theorem afu(hS:bk S):AY S BF.c 99 (fun r y=>⟨⟨r.1.id,r.1.kind,r.1.cls,r.1.name,y.1.parts⟩,y.2⟩):=Xo (fun _=>hS _ _ M M M M) rfl (fun a=>Sq a.1) fun y=>⟨[y.1.parts.v],y.1.parts.v,rfl,rfl,by rw[YH];rfl,by rw[YH,oO,yI];rfl,fun r=>⟨J5 rfl,by rw[YH];rfl⟩⟩
def zfx:Fz 6 (aB 0):=fun m hm lv aa=>zp m Z lv aa
theorem OD(hS:bk S)(h4:4<=Nc)(lb lo lt:aR 3 Nd.c)(h1:lb.l.length<=1000)(h2:lo.l.length<=1000)(h3:lt.l.length<=1000){id:Nat}{aa:aS}(hm:Nc+300000<=m)(sr:aa[id]?=some .free)(jM:(pU Nd.id (fN.map Fd.p) lb.l lo.l lt.l).length<9223372036854775808) :
  ∃ r,aL aO S m d ah aJ aa id 40 [xM 1 73 MS,lb.v,lo.v,lt.v]=some (swapT r)/\jf lV 2 (nE Nd.id (fN.map Fd.p) 1 lb.l lo.l lt.l) (bZ Nd.aV (pU Nd.id (fN.map Fd.p) lb.l lo.l lt.l) jM) d id aa r:=by
 refine OC hS h4 (Qi hS) rfl rfl Nd.aV (fun _=>rfl) FF rfl (IS hS) (fN.map Fd.p) (fun{b o t vb vo vt} hb ho ht=>?_) lb lo lt h1 h2 h3 hm sr jM
 refine xm (Qi hS) rfl Nd.aV (fun _=>rfl) rfl FF ?_ fN Δ ?_ ?_ ?_ hb ho ht
 .intro x hx
  simp[dmN,dkN,eG,gm,gw,or_self]at hx
  rw[hx]
  exact zfx
 .intro x y
  exact zaa (Aq hS) (fun a=>rfl) Nd.aV MS Δ x y fun f hf=>by simp[MS,eG,gm,gw]at hf;subst hf;exact AK hS x y
 .intro f hf x y
  simp[fN,eG,gm,gw]at hf
  subst hf
  exact AK hS x y
 .intro f hf
  simp[fN,eG,gm,gw]at hf
  subst hf
  exact aft hS
theorem OF(hS:bk S)(h4:4<=Nc)(lb lo lt:aR 6 BA.c)(h1:lb.l.length<=1000)(h2:lo.l.length<=1000)(h3:lt.l.length<=1000){id:Nat}{aa:aS}(hm:Nc+300000<=m)(sr:aa[id]?=some .free)(jM:(nE BA.id (fA.map Fd.p) 2 lb.l lo.l lt.l).length<9223372036854775808) :
  ∃ r,aL aO S m d ah aJ aa id 41 [xM 2 79 R8,lb.v,lo.v,lt.v]=some r/\jf BA.c 6 (pU BA.id (fA.map Fd.p) lb.l lo.l lt.l) (bZ zG (nE BA.id (fA.map Fd.p) 2 lb.l lo.l lt.l) jM) d id aa r:=by
 refine ID (g:=BA.c) hS h4 (Qk hS) rfl rfl (fun _=>rfl) (fun a=>Xh a.1) (fun a=>zft a.1) rfl (fun x=>IW hS x.1) (fA.map Fd.p) (fun{b o t vb vo vt} hb ho ht=>?_) lb lo lt h1 h2 h3 hm sr jM
 refine xm (g:=BA.c) (Qk hS) rfl (fun _=>rfl) (fun a=>Xh a.1) rfl (fun a=>zft a.1) ?_ fA Δ ?_ ?_ ?_ hb ho ht
 .intro x hx
  simp only[dmA,dkA,eG,gm,gw]at hx
  rcases hx with rfl|rfl|rfl|rfl|rfl|rfl<;>first|exact zfx|exact fun m hm lv aa=>yZ m Z lv aa
 .intro x y
  exact zaa (Av hS) (fun a=>Xh a.1) (fun _=>rfl) (fA.map fun f=>(f.s,f.k,f.eq)) Δ x y fun f hf=>by
   simp[fA,mQ,tX,eG,gm,gw]at hf;exact xcl
 .intro f hf x y
  simp[fA,eG,gm,gw]at hf
  exact xcl
 .intro f hf
  simp[fA,eG,gm,gw]at hf
  rcases hf with rfl|rfl|rfl
  .exact af0 hS
  .exact afz hS
  .exact afy hS
theorem OE(hS:bk S)(h4:4<=Nc)(lb lo lt:aR 5 BF.c)(h1:lb.l.length<=1000)(h2:lo.l.length<=1000)(h3:lt.l.length<=1000){id:Nat}{aa:aS}(hm:Nc+300000<=m)(sr:aa[id]?=some .free)(jM:(nE BF.id (fF.map Fd.p) 3 lb.l lo.l lt.l).length<9223372036854775808) :
  ∃ r,aL aO S m d ah aJ aa id 42 [xM 3 90 R7,lb.v,lo.v,lt.v]=some r/\jf BF.c 5 (pU BF.id (fF.map Fd.p) lb.l lo.l lt.l) (bZ zG (nE BF.id (fF.map Fd.p) 3 lb.l lo.l lt.l) jM) d id aa r:=by
 refine ID (g:=BF.c) hS h4 (Qj hS) rfl rfl (fun _=>rfl) (fun a=>Sq a.1) (fun a=>xX a.1) rfl (fun x=>IU hS x.1) (fF.map Fd.p) (fun{b o t vb vo vt} hb ho ht=>?_) lb lo lt h1 h2 h3 hm sr jM
 refine xm (g:=BF.c) (Qj hS) rfl (fun _=>rfl) (fun a=>Sq a.1) rfl (fun a=>xX a.1) ?_ fF Δ ?_ ?_ ?_ hb ho ht
 .intro x hx
  simp only[dmF,dkF,eG,gm,gw]at hx
  rcases hx with rfl|rfl|rfl|rfl|rfl<;>first|exact zfx|grind|exact Zo rfl
 .intro x y
  exact zaa (Au hS) (fun a=>Sq a.1) (fun _=>rfl) (fF.map fun f=>(f.s,f.k,f.eq)) Δ x y fun f hf=>by
   simp[fF,mQ,tX,eG,gm,gw]at hf;exact xbz
 .intro f hf x y
  simp[fF,eG,gm,gw]at hf
  exact xbz
 .intro f hf
  simp[fF,eG,gm,gw]at hf
  rcases hf with rfl|rfl|rfl|rfl
  .exact afx hS
  .exact afw hS
  .exact afv hS
  .exact afu hS
structure Bv where
 ns:aR 3 Nd.c
 az:aR 6 BA.c
 fs:aR 1 aK
 ft:aR 5 BF.c
def Bv.c(s:Bv):List IV:=[s.ns.v,s.az.v,s.fs.v,s.ft.v]
structure Bv.Few(s:Bv):Prop where
 ns:s.ns.l.length<=1000
 az:s.az.l.length<=1000
 ft:s.ft.l.length<=1000
def LV(g:H->List IV)(sz d k:Nat)(lv:IV)(Y:aP)(xs:List H):Prop:=(xs=[]/\lv=.nilsl)∨(xs≠[]/\lv=.slM d k 0 xs.length xs.length sz false/\Y=aH (xs.flatMap g))
section
variable {g:H->List IV} 
theorem LV.one(h:LV g sz d k lv Y xs):lv.cells=[lv]/\lv.scalar=true:=by rcases h with⟨_,rfl⟩|⟨_,rfl,_⟩<;>exact⟨rfl,rfl⟩
theorem LV.len(h:LV g sz d k lv Y xs){d2:Nat}{aa:aS}:iY d2 ah aJ aa 1 lv=some (.p,iv (xs.length:Nat),aa):=by
 rcases h with⟨rfl,rfl⟩|⟨_,rfl,_⟩
 .rfl
 rfl
theorem LV.fz(hs:∀ a,(g a).length=sz)(hf:∀ a,∀ x∈g a,Fz n x)(h:LV g sz d k lv Y xs){aa:aS}(ho:aa[k]?=some Y)(hx:xs.length<9223372036854775808)(hm:n+1<=m):freeze m d aa lv=some (bZ hs xs hx).v:=by
 refine YQ (Pre:=[]) hs hf hm hx ?_;rcases h with h|⟨h1,rfl,rfl⟩
 .exact .inl h
 .exact .inr ⟨k,h1,M,ho⟩
theorem Fo{ys:aR Nj g2}{id:Nat}{P aa:aS}(h:jf g sz xs ys d id aa r)(ho:aa=P++[.free,.free])(hi:id=P.length+1):∃ e lv Y,r=(e,.tuple [lv,ys.v],P++[.free,Y])/\LV g sz d id lv Y xs:=by
 subst ho hi;rcases h with⟨h1,rfl⟩|⟨h1,rfl⟩
 .exact⟨_,_,.free,rfl,.inl ⟨h1,rfl⟩⟩
 .refine⟨.a,.slM d (P.length+1) 0 xs.length xs.length sz false,aH (xs.flatMap g),?_,.inr ⟨h1,rfl,rfl⟩⟩;simp
end
def NZ(a:BA):BA:=⟨⟨a.1.id,a.1.fr,a.1.to,qD Pt.aV a.1.via,a.1.l,a.1.r⟩,a.2⟩
def RR(f:BF):BF:=⟨⟨f.1.id,f.1.kind,f.1.cls,f.1.name,qD ze f.1.parts⟩,f.2⟩
def mN(b o t:Bv):List Nd:=pU Nd.id (fN.map Fd.p) b.ns.l o.ns.l t.ns.l
def mA(b o t:Bv):List BA:=pU BA.id (fA.map Fd.p) b.az.l o.az.l t.az.l
def mF(b o t:Bv):List BF:=pU BF.id (fF.map Fd.p) b.ft.l o.ft.l t.ft.l
def cN(b o t:Bv):List (Int×Int):=nE Nd.id (fN.map Fd.p) 1 b.ns.l o.ns.l t.ns.l
def cA(b o t:Bv):List (Int×Int):=nE BA.id (fA.map Fd.p) 2 b.az.l o.az.l t.az.l
def cF(b o t:Bv):List (Int×Int):=nE BF.id (fF.map Fd.p) 3 b.ft.l o.ft.l t.ft.l
def iF(l:List BA):List Int:=l.flatMap fun a=>[a.1.l,a.1.r]
theorem zfy(l:List BA):(iF l).length=l.length*2:=by
 induction l with
 |nil=>rfl
 |cons a l ih =>
  have e:iF (a::l)=a.1.l::a.1.r::iF l:=rfl
  grind
theorem Cn{f:H->H}(hx:l[i]?=some x):((l.take i).map f++l.drop i)[i]?=some x:=by grind
theorem Cm{f:H->H}(hx:l[i]?=some x):((l.take i).map f++l.drop i).set i (f x)=(l.take (i+1)).map f++l.drop (i+1):=by
 have e:((l.take i).map f).length=i:=by grind
 rw[zlu _ _ Z,e,Ew,EU (ew.1 hx).1,RP,jh,hx,Hi];simp
theorem Yd{f:H->H}:((l.take i).map f++l.drop i).length=l.length:=by grind
section
variable {G:List ((H->H->Bool)×(H->H->H))}
theorem CG{lo lt:List H}:(Tt aW lb lo lt).length<=lb.length+lo.length+lt.length:=by
 have h:=Zc ([lb,lo,lt].flatMap fun l=>l.map aW);have e:([lb,lo,lt].flatMap fun l=>l.map aW).length=lb.length+lo.length+lt.length:=by grind
 rw[e]at h;exact h
def YR{lo lt:List H}:(pU aW G lb lo lt).length<=lb.length+lo.length+lt.length:=iQ (znp ..) CG
theorem zfz{lo lt:List H}:(nE aW G nn lb lo lt).length<=lb.length+lo.length+lt.length:=by unfold nE;rw[qE];exact iQ (zlv ..) CG
end
theorem Ed{g:H->List IV}(hs:∀ a,(g a).length=sz)(hsc:∀ a,(g a).all IV.scalar=true){lk:Nat->Nat->Option aP}{O:aS}{x:IV}{us vs:List H}(h:bE g sz d 0 O x us)(hlk:∀ b l,x=.slM d (0+b) 0 l l sz false->lk d (0+b)=O[b]?)(hf:O[n0+slot]?=some .free)(hl:us.length+vs.length<=1073741824) :
  ∃ e x' O',aY d n0 lk O sz x (vs.flatMap g) vs.length slot=some (e,x',O')/\bE g sz d 0 O' x' (us++vs)/\(∀ j,j≠n0+slot->(∀ b l,x=.slM d (0+b) 0 l l sz false->j≠b)->O'[j]?=O[j]?)/\(∀ j,(∀ b l,x=.slM d (0+b) 0 l l sz false->j≠b)->comm (.rl d j 0 4) e=true)/\(x'=x∨∃ l,x'=.slM d (0+(n0+slot)) 0 l l sz false):=by
 have au:=(ew.1 hf).1
 have hvs:(vs.flatMap g).all IV.scalar=true:=nu.2 fun y hy=>by grind
 by_cases h0:vs=[]
 .subst h0
  rw[gF]
  rcases h with⟨rfl,rfl⟩|⟨b,h1,rfl,h2⟩
  .exact⟨.r,.nilsl,O,rfl,.inl ⟨rfl,rfl⟩,fun _ _ _=>rfl,fun _ _=>rfl,.inl rfl⟩
  .exact⟨.r,_,O,zfa,.inr ⟨b,h1,rfl,h2⟩,fun _ _ _=>rfl,fun _ _=>rfl,.inl rfl⟩
 have hn:vs.length≠0:=fun e=>h0 (EC e)
 have hne:us++vs≠[]:=fun e=>h0 (zml.1 e).2
 rcases h with⟨rfl,rfl⟩|⟨b,h1,rfl,h2⟩
 .refine⟨.a,.slM d (n0+slot) 0 vs.length vs.length sz false,O.set (n0+slot) (aH (vs.flatMap g)),?_,.inr ⟨n0+slot,hne,M,by grind⟩,fun j hj _=>EV (Se hj),fun _ _=>rfl,.inr ⟨_,by rw[eB]⟩⟩
  rw[yp hn xfw]
  unfold dD
  rw[hf]
  simp[zi]
 .refine⟨.k (0+b) (n0+slot),.slM d (n0+slot) 0 (us.length+vs.length) (us.length+vs.length) sz false,(O.set b .gone).set (n0+slot) (aH (us.flatMap g++vs.flatMap g)),?_,.inr ⟨n0+slot,hne,M,?_⟩,fun j hj hx=>?_,fun j hx=>?_,.inr ⟨_,by rw[eB]⟩⟩
  .rw[zQ hn hl (zj hs) hvs (by grind)]
   unfold iG
   rw[hf]
   simp[zi,eB]
  .grind
  .grind
  .have:=hx b _ rfl
   simp[comm]
   omega
def Can(R:Bv)(q:aR 2 lV):Prop:=R.ns=bZ Nd.aV R.ns.l R.ns.eZ/\R.az=bZ (g:=BA.c) (sz:=6) (fun _=>rfl) R.az.l R.az.eZ/\R.fs=bZ ze R.fs.l R.fs.eZ/\R.ft=bZ (g:=BF.c) (sz:=5) (fun _=>rfl) R.ft.l R.ft.eZ/\q=bZ zG q.l q.eZ
theorem Ye{g:H->List IV}(hs:∀ a,(g a).length=sz)(xs:List H)(hx:xs.length<9223372036854775808):bZ hs xs hx=bZ hs (bZ hs xs hx).l (bZ hs xs hx).eZ:=by cases xs<;>rfl
theorem Qz(hS:bk S)(h4:4<=Nc)(b o t:Bv)(hb:b.Few)(ho:o.Few)(ht:t.Few) :
  ∃(R:Bv)(q:aR 2 lV),Can R q/\R.ns.l=mN b o t/\R.az.l=(mA b o t).map NZ/\R.fs.l=(gG (iF (mA b o t))).filter nz/\R.ft.l=(mF b o t).map RR/\q.l=cN b o t++cA b o t++cF b o t/\aM S (Nc+400000) 22 [.agg b.c,.agg o.c,.agg t.c] (.tuple [.agg R.c,q.v]):=by
 have lN:(mN b o t).length<9223372036854775808:=zmf YR xfo
 have kA:(mA b o t).length<=3000:=iQ YR xfp
 have kF:(mF b o t).length<=3000:=iQ YR xfq
 have eN:(cN b o t).length<=3000:=iQ zfz xfo
 have eA:(cA b o t).length<=3000:=iQ zfz xfp
 have eF:(cF b o t).length<=3000:=iQ zfz xfq
 have O3:(iF (mA b o t)).length<65536:=by rw[zfy];omega
 have lc:(cN b o t++cA b o t++cF b o t).length<9223372036854775808:=by grind
 refine⟨⟨bZ Nd.aV (mN b o t) lN,bZ (g:=BA.c) (sz:=6) (fun _=>rfl) ((mA b o t).map NZ) (by grind),bZ ze ((gG (iF (mA b o t))).filter nz) (y5 O3),bZ (g:=BF.c) (sz:=5) (fun _=>rfl) ((mF b o t).map RR) (by grind)⟩,bZ zG _ lc,⟨Ye ..,Ye ..,Ye ..,Ye ..,Ye ..⟩,zM ..,zM ..,zM ..,zM ..,zM ..,?_⟩
 refine zr (i:=i22) (hS _ _ M M M M) rfl rfl (bP rfl) (Nc+399999) fun m hm d ah tt af=>?_
 simp only[slotsOf,za,zb,i22,Bv.c]at af
 have cn:=uN hS m Z
 have ca:=D4 hS m Z
 have cf:=vg hS m Z
 have hlA:(cA b o t).length<9223372036854775808:=Z
 have hlF:(cF b o t).length<9223372036854775808:=Z
 have r1:∀ aJ aa id,aa[id]?=some .free->∃ r,aL aO S m d ah aJ aa id 40 [xM 1 73 MS,b.ns.v,o.ns.v,t.ns.v]=some (swapT r)/\jf lV 2 (cN b o t) (bZ Nd.aV (mN b o t) lN) d id aa r:=fun aJ aa id hid=>OD hS h4 b.ns o.ns t.ns hb.ns ho.ns ht.ns Z hid lN
 have r2:∀ aJ aa id,aa[id]?=some .free->∃ r,aL aO S m d ah aJ aa id 41 [xM 2 79 R8,b.az.v,o.az.v,t.az.v]=some r/\jf BA.c 6 (mA b o t) (bZ zG (cA b o t) hlA) d id aa r:=fun aJ aa id hid=>OF hS h4 b.az o.az t.az hb.az ho.az ht.az Z hid hlA
 have r3:∀ aJ aa id,aa[id]?=some .free->∃ r,aL aO S m d ah aJ aa id 42 [xM 3 90 R7,b.ft.v,o.ft.v,t.ft.v]=some r/\jf BF.c 5 (mF b o t) (bZ zG (cF b o t) hlF) d id aa r:=fun aJ aa id hid=>OE hS h4 b.ft o.ft t.ft hb.ft ho.ft ht.ft Z hid hlF
 generalize hkn:xM 1 73 MS=kn at cn r1
 generalize hka:xM 2 79 R8=ka at ca r2
 generalize hkf:xM 3 90 R7=kf at cf r3
 have hqN:=zM Nd.aV (mN b o t) lN
 generalize hxN:bZ Nd.aV (mN b o t) lN=xN at r1 hqN ⊢
 have hqA:=zM zG (cA b o t) hlA
 generalize hxA:bZ zG (cA b o t) hlA=xA at r2 hqA
 have hqF:=zM zG (cF b o t) hlF
 generalize hxF:bZ zG (cF b o t) hlF=xF at r3 hqF
 generalize hA:aP.cells [b.ns.v,b.az.v,b.fs.v,b.ft.v]=A
 generalize hB:aP.cells [o.ns.v,o.az.v,o.fs.v,o.ft.v]=B
 generalize hC:aP.cells [t.ns.v,t.az.v,t.fs.v,t.ft.v]=C
 let⟨w1,c1,o1⟩:=r1 (bI [0] 4 [A,B,C,aH [.nilsl,.nilsl,.nilsl,.nilsl],.free,.free]) [A,B,C,aH [.nilsl,.nilsl,.nilsl,.nilsl],.free,.free] 5 rfl
 obtain⟨e1,lvN,YN,rfl,L1⟩:=Fo (P:=[A,B,C,aH [.nilsl,.nilsl,.nilsl,.nilsl]]) o1 rfl rfl
 let⟨w2,c2,o2⟩:=r2 (bI [0] 6 [A,B,C,aH [xN.v,.nilsl,.nilsl,.nilsl],.free,YN,.free,.free]) [A,B,C,aH [xN.v,.nilsl,.nilsl,.nilsl],.free,YN,.free,.free] 7 rfl
 obtain⟨e2,Be,YA,rfl,L2⟩:=Fo (P:=[A,B,C,aH [xN.v,.nilsl,.nilsl,.nilsl],.free,YN]) o2 rfl rfl
 let⟨w3,c3,o3⟩:=r3 (bI [0] 8 [A,B,C,aH [xN.v,Be,.nilsl,.nilsl],.free,YN,.free,YA,.free,.free]) [A,B,C,aH [xN.v,Be,.nilsl,.nilsl],.free,YN,.free,YA,.free,.free] 9 rfl
 obtain⟨e3,FI,YF,rfl,L3⟩:=Fo (P:=[A,B,C,aH [xN.v,Be,.nilsl,.nilsl],.free,YN,.free,YA]) o3 rfl rfl
 clear r1 r2 r3 o1 o2 o3
 simp[swapT,gu,fP]at c1 c2 c3
 let⟨n1,n2⟩:=L1.one
 let⟨a1,a2⟩:=L2.one
 let⟨f1,f2⟩:=L3.one
 have a3:=fun d2 ah aJ aa=>L2.len (d2:=d2) (ah:=ah) (aJ:=aJ) (aa:=aa)
 have f3:=fun d2 ah aJ aa=>L3.len (d2:=d2) (ah:=ah) (aJ:=aJ) (aa:=aa)
 subst hA hB hC
 simp[zf]at a3 f3
 simp[i22,V0,seval,af,cn,c1,ca,c2,cf,c3,n1,n2,a1,a2,f1,f2,a3,f3]
 generalize aP.cells [b.ns.v,b.az.v,b.fs.v,b.ft.v]=B0
 generalize aP.cells [o.ns.v,o.az.v,o.fs.v,o.ft.v]=B1
 generalize aP.cells [t.ns.v,t.az.v,t.fs.v,t.ft.v]=B2
 refine zn (fun jj st=>∃(i:Nat)(Y:aP)(J:aS)(lc:IV),(mA b o t).length-i<=jj/\i<=(mA b o t).length/\LV BA.c 6 d 7 Be Y (((mA b o t).take i).map NZ++(mA b o t).drop i)/\bE aK 1 d 10 J lc (iF ((mA b o t).take i))/\st.aa=B0::B1::B2::aH [xN.v,Be,.nilsl,FI]::.free::YN::.free::Y::.free::YF::J/\aN 113 st.t [(6,.ptrM d 3 0),(7,lvN),(8,xA.v),(9,xF.v),(10,lc),(61,Be),(62,iv ((mA b o t).length:Nat)),(63,iv i)]) (mA b o t).length Z ⟨0,YA,[],.nilsl,Z,Z,by grind,.inl ⟨rfl,rfl⟩,rfl,by simp[V0,seval,af,cZ]⟩ ?_
 clear af c1 c2 c3 cn ca cf
 rintro jj ⟨tt,bJ⟩ KA ⟨i,Y,J,lc,hjj,hi,hY,hO,ho',af⟩ bp bK bQ
 dsimp only at ho' af
 subst ho'
 simp[za,zb,zf]at af
 by_cases h:i<(mA b o t).length
 .have hx:(mA b o t)[i]?=some (mA b o t)[i]:=dw h
  generalize(mA b o t)[i]=x at hx
  rcases hY with⟨h0,_⟩|⟨_,hlv,rfl⟩
  .have:=dL List.length h0
   grind
  rw[Yd]at hlv
  have hpx:=Cn (f:=NZ) hx
  have gE:bB ((((mA b o t).take i).map NZ++(mA b o t).drop i).flatMap BA.c) (i*6) 6=some x.1.c:=zd (sz:=6) (g:=BA.c) (fun _=>rfl) 0 6 hpx Z
  have pK:dS ((((mA b o t).take i).map NZ++(mA b o t).drop i).flatMap BA.c) (i*6+3) [(qD Pt.aV x.1.via).v]=(((mA b o t).take (i+1)).map NZ++(mA b o t).drop (i+1)).flatMap BA.c:=by rw[←Cm hx];exact y4 (sz:=6) (g:=BA.c) (fun _=>rfl) hpx M rfl
  have hfl:((((mA b o t).take i).map NZ++(mA b o t).drop i).flatMap BA.c).length=(mA b o t).length*6:=by rw[zj (sz:=6) (g:=BA.c) (fun _=>rfl),Yd]
  have hfit:i*6+3+1<=((((mA b o t).take i).map NZ++(mA b o t).drop i).flatMap BA.c).length:=Z
  generalize(((mA b o t).take i).map NZ++(mA b o t).drop i).flatMap BA.c=CL at gE pK hfl hfit ⊢
  have kX:∀ aa,cu aa 6 Be (aB (i:Int))=some (.p,.ptrM d 7 (i*6),aa):=fun aa=>by rw[hlv];have:=zo (aa:=aa) (z:=6) (l:=d) (b:=7) (off:=0) (cap:=(mA b o t).length) (z':=6) (tight:=false) (k:=.i64) h;grind
  have hw:=zt i
  let⟨v1,v2⟩:(qD Pt.aV x.1.via).v.cells=[(qD Pt.aV x.1.via).v]/\(qD Pt.aV x.1.via).v.scalar=true:=⟨rfl,rfl⟩
  have hs2:iF ((mA b o t).take (i+1))=iF ((mA b o t).take i)++[x.1.l,x.1.r]:=by unfold iF;rw[jh,hx,Bh];rfl
  obtain⟨e,lc',J2,bz,cL⟩:=zI (Pre:=[B0,B1,B2,aH [xN.v,Be,.nilsl,FI],.free,YN,.free,aH ((((mA b o t).take (i+1)).map NZ++(mA b o t).drop (i+1)).flatMap BA.c),.free,YF]) (n0:=J.length+1+1+1+1+1+1+1+1+1+1+1+1) (slot:=0) (k:=2) (ah:=ah) (R:=[aH x.1.c,.free,.free]) ze hO (ys:=[x.1.l,x.1.r]) M (iQ (zmm (show(iF ((mA b o t).take i)).length<=6000 by rw[zfy,ER];omega) (cI 2)) Z) (show J.length+1+1+1+1+1+1+1+1+1+1+1+1+0=10+(J.length+2) by omega) rfl rfl
  rw[←hs2]at cL
  simp only[gu,fP,eT,jm,aK,zf,fB,gq,gF,eB]at bz
  have EO:∀(lk:Nat->Nat->Option aP)(a b:IV),bW lk 1 (.slC [a,b] 2 1 true)=some ([a,b],2):=fun lk a b=>rfl
  simp only[Ac.c,zf]at gE bz
  have hh:∀(vis:List Nat)(x0 x1 x2 x3 x4 x5 x6 x7 x8 x9 z y:aP),(bI vis (J.length+1+1+1+1+1+1+1+1+1+1+1) (x0::x1::x2::x3::x4::x5::x6::x7::x8::x9::(J++[z,y])))[J.length+10]?=some z:=fun vis x0 x1 x2 x3 x4 x5 x6 x7 x8 x9 z y=>xb5
  simp only[V0,seval,af,h,kX,gE,hh,(fun d ah aJ aa id=>K7 hS x.1.via Z m Z d ah aJ aa id),v1,v2,pK,hfit,rep,zh,zl,zq,EO,bz,hw]
  exact bp _ ((mA b o t).length-(i+1)) Z ⟨i+1,_,J2,lc',Z,Z,.inr ⟨by rw[←MH,Yd];omega,by grind,rfl⟩,cL,rfl,by simp[V0,seval,af,hw,bz]⟩
 simp[V0,seval,af,h]
 refine bK _ _ ?_
 obtain rfl:i=(mA b o t).length:=Z
 rw[rD,List.drop_length,gF]at hY
 rw[rD]at hO
 have hOL:Mv d ah (B0::B1::B2::aH [xN.v,Be,.nilsl,FI]::.free::YN::.free::Y::.free::YF::(J++[.free])) lc (iF (mA b o t)):=by
  rcases hO with h|⟨k,h1,rfl,h2⟩
  .exact .inl h
  .refine .inr ⟨d,10+k,_,false,h1,cI _,cI _,rfl,?_⟩;rw[bU rfl,show 10+k=k+1+1+1+1+1+1+1+1+1+1 by omega];simp[rG];grind
 have cm:=fun aa id=>K4 hS h4 (iF (mA b o t)) O3 (tt:=true) (aa:=aa) (id:=id) hOL m Z
 clear hOL hO a3
 have hqS:=zM ze ((gG (iF (mA b o t))).filter nz) (y5 O3)
 generalize hxS:bZ ze ((gG (iF (mA b o t))).filter nz) (y5 O3)=xS at cm hqS ⊢
 have hc1:∀ z:IV,(if 1<=(rep [IV.int .i64 0] 1).length then some (dS (rep [IV.int .i64 0] 1) 0 [z])else none)=some [z]:=fun z=>rfl
 simp[V0,seval,af,hc1,cm,f3]
 refine zm ((mF b o t).length) (fun i st=>∃(xgr:aP)(J:aS),LV BF.c 5 d 9 FI xgr (((mF b o t).take i).map RR++(mF b o t).drop i)/\st.aa=B0::B1::B2::aH [xN.v,Be,xS.v,FI]::.free::YN::.free::Y::.free::xgr::J/\aN 113 st.t [(6,.ptrM d 3 0),(7,lvN),(8,xA.v),(9,xF.v),(91,FI),(92,iv ((mF b o t).length:Nat)),(93,iv i)]) Z ⟨YF,_,by grind,rfl,by simp[V0,seval,af,cZ]⟩ ?_
 clear af cm bp bK bQ hjj hi h
 rintro i ⟨tt,bJ⟩ KB hi ⟨xgr,J,hZ,ho',af⟩ gJ jL kP
 dsimp only at ho' af
 subst ho'
 simp[za,zb,zf]at af
 by_cases h:i<(mF b o t).length
 .have hx:(mF b o t)[i]?=some (mF b o t)[i]:=dw h
  generalize(mF b o t)[i]=x at hx
  rcases hZ with⟨h0,_⟩|⟨_,hlv,rfl⟩
  .have:=dL List.length h0
   grind
  rw[Yd]at hlv
  have hpx:=Cn (f:=RR) hx
  have gE:bB ((((mF b o t).take i).map RR++(mF b o t).drop i).flatMap BF.c) (i*5) 5=some x.1.c:=zd (sz:=5) (g:=BF.c) (fun _=>rfl) 0 5 hpx Z
  have pK:dS ((((mF b o t).take i).map RR++(mF b o t).drop i).flatMap BF.c) (i*5+4) [(qD ze x.1.parts).v]=(((mF b o t).take (i+1)).map RR++(mF b o t).drop (i+1)).flatMap BF.c:=by rw[←Cm hx];exact y4 (sz:=5) (g:=BF.c) (fun _=>rfl) hpx M rfl
  have hfl:((((mF b o t).take i).map RR++(mF b o t).drop i).flatMap BF.c).length=(mF b o t).length*5:=by rw[zj (sz:=5) (g:=BF.c) (fun _=>rfl),Yd]
  have hfit:i*5+4+1<=((((mF b o t).take i).map RR++(mF b o t).drop i).flatMap BF.c).length:=Z
  generalize(((mF b o t).take i).map RR++(mF b o t).drop i).flatMap BF.c=CL at gE pK hfl hfit ⊢
  have kX:∀ aa,cu aa 5 FI (aB (i:Int))=some (.p,.ptrM d 9 (i*5),aa):=fun aa=>by rw[hlv];have:=zo (aa:=aa) (z:=5) (l:=d) (b:=9) (off:=0) (cap:=(mF b o t).length) (z':=5) (tight:=false) (k:=.i64) h;grind
  have hw:=zt i
  let⟨v1,v2⟩:(qD ze x.1.parts).v.cells=[(qD ze x.1.parts).v]/\(qD ze x.1.parts).v.scalar=true:=⟨rfl,rfl⟩
  have hh:∀(vis:List Nat)(x0 x1 x2 x3 x4 x5 x6 x7 x8 x9 z y:aP),(bI vis (J.length+1+1+1+1+1+1+1+1+1+1+1) (x0::x1::x2::x3::x4::x5::x6::x7::x8::x9::(J++[z,y])))[J.length+10]?=some z:=fun vis x0 x1 x2 x3 x4 x5 x6 x7 x8 x9 z y=>xb5
  simp[Ft.c,zf]at gE
  simp only[V0,seval,af,h,kX,gE,hh,(fun d ah aJ aa id=>K8 hS x.1.parts Z m Z d ah aJ aa id),v1,v2,pK,hfit,hw]
  exact gJ Z _ ⟨_,_,.inr ⟨by rw[←MH,Yd];omega,by grind,rfl⟩,rfl,by simp[V0,seval,af,hw]⟩
 simp[V0,seval,af,h]
 refine jL _ _ ?_
 obtain rfl:i=(mF b o t).length:=Z
 rw[rD,List.drop_length,gF]at hZ
 have hN5:∀(b' l:Nat),lvN=.slM d (0+b') 0 l l 2 false->b'=5:=fun b' l e=>by
  rcases L1 with⟨_,h2⟩|⟨_,h2,_⟩
  .grind
  grind
 have hO0:bE lV 2 d 0 (B0::B1::B2::aH [xN.v,Be,xS.v,FI]::.free::YN::.free::Y::.free::xgr::(J++[.free,.free])) lvN (cN b o t):=by
  rcases L1 with h|⟨h1,h2,h3⟩
  .exact .inl h
  .exact .inr ⟨5,h1,h2,by grind⟩
 have hfree:∀ k,(B0::B1::B2::aH [xN.v,Be,xS.v,FI]::.free::YN::.free::Y::.free::xgr::(J++[.free,.free]))[J.length+1+1+1+1+1+1+1+1+1+1+k]?=[aP.free,.free][k]?:=fun k=>by rw[show J.length+1+1+1+1+1+1+1+1+1+1+k=(J.length+k)+1+1+1+1+1+1+1+1+1+1 by omega];simp[rG];grind
 have g3:(B0::B1::B2::aH [xN.v,Be,xS.v,FI]::.free::YN::.free::Y::.free::xgr::(J++[.free,.free]))[3]?=some (aH [xN.v,Be,xS.v,FI]):=rfl
 have g7:(B0::B1::B2::aH [xN.v,Be,xS.v,FI]::.free::YN::.free::Y::.free::xgr::(J++[.free,.free]))[7]?=some Y:=rfl
 have g9:(B0::B1::B2::aH [xN.v,Be,xS.v,FI]::.free::YN::.free::Y::.free::xgr::(J++[.free,.free]))[9]?=some xgr:=rfl
 have hsc:∀ a:Int×Int,(lV a).all IV.scalar=true:=fun _=>rfl
 obtain ⟨e1,x1,O1,s1,s2,s3,s4,s5⟩:=Ed (d:=d) (n0:=J.length+1+1+1+1+1+1+1+1+1+1) (slot:=0) (lk:=look d ah (bI [] (J.length+1+1+1+1+1+1+1+1+1+1) (B0::B1::B2::aH [xN.v,Be,xS.v,FI]::.free::YN::.free::Y::.free::xgr::(J++[.free,.free])))) (vs:=xA.l) zG hsc hO0 (fun b' l e=>by
  have:=hN5 b' l e;subst this;rw [Zb (.inl Z)]) (hfree 0) (by grind)
 have k1:∀ j,j≠J.length+10->j≠5->O1[j]?=_:=fun j h1 h2=>s3 j Z fun b' l e=>by grind
 have hx1:∀(b' l:Nat),x1=.slM d (0+b') 0 l l 2 false->b'=5∨b'=J.length+10:=fun b' l e=>by grind
 obtain ⟨e2,x2,O2,r1,r2,r3,r4,_⟩:=Ed (d:=d) (n0:=J.length+1+1+1+1+1+1+1+1+1+1) (slot:=1) (lk:=look d ah (bI [0] (J.length+1+1+1+1+1+1+1+1+1+1) O1)) (vs:=xF.l) zG hsc s2 (fun b' l e=>by
  rcases hx1 b' l e with rfl|rfl
  .rw[Zb (.inl Z)]
  .rw [Zb (.inr M),eB]) (by simp [*]) (by grind)
 have k2:∀ j,j≠J.length+10->j≠J.length+11->j≠5->O2[j]?=_:=fun j h1 h2 h3=>(r3 j Z fun b' l e=>by grind).trans (k1 j h1 h3)
 have q3:=k2 3 Z Z Z
 have q7:=k2 7 Z Z Z
 have q9:=k2 9 Z Z Z
 rw[g3]at q3
 rw[g7]at q7
 rw[g9]at q9
 have m1:=s4 3 fun b' l e=>by grind
 have m2:=r4 3 fun b' l e=>by grind
 rw[hqA,hqF,mo]at r2
 have hst:O2.set 3 (aH [xN.v,Be,xS.v,FI])=O2:=by let⟨h1,h2⟩:=ew.1 q3;rw[←h2,List.set_getElem_self]
 clear k1 k2 s3 s4 r3 r4 g3 g7 g9 hO0 hfree
 simp only[V0,seval,af,zB,zh,zl,zq,s1,r1,m1,m2,q3,a1,a2,f1,f2,hst]
 obtain⟨m,rfl⟩:=gv m 2
 have fzi:∀ a,∀ x∈aK a,Fz 1 x:=fun a x hx=>by simp[aK,eG,gm,gw]at hx;rw[hx];exact zp
 have fzn:∀ a:Nd,∀ x∈a.c,Fz 1 x:=fun a x hx=>by simp[Nd.c,eG,gm,gw]at hx;rcases hx with rfl|rfl|rfl<;>exact zp
 have h1:=zP fzn xN m Z d O2
 have h2:=LV.fz (g:=BA.c) (sz:=6) (n:=6) (m:=m) (fun _=>rfl) (fun a=>zft a.1) hY q7 (by grind) Z
 have h5:=YQ (Pre:=[]) (m:=m+1) zG zck Z (by grind) r2
 rw[fP]at h5
 refine⟨_,rfl,?_⟩
 unfold freeze
 simp only[mq,qi,(ze9 (yw h1 (yw h2 (yw (zP fzi xS m Z d O2) (yw (LV.fz (g:=BF.c) (sz:=5) (n:=6) (m:=m) (fun _=>rfl) (fun a=>xX a.1) hZ q9 (by grind) Z) zcb))))),h5,nY,nZ,iD,iJ]
 rfl
def kR(o p:Pt):Int:=bif decide (0<aT .i64 (p.x-o.x))&&decide (0<=aT .i64 (p.y-o.y))then 0 else bif decide (aT .i64 (p.x-o.x)<=0)&&decide (0<aT .i64 (p.y-o.y))then 1 else bif decide (aT .i64 (p.x-o.x)<0)then 2 else 3
def fK(o a b:Pt):Bool:=([o,a,b].all bg&&(!dR a o&&!dR b o))&&(decide (kR o a<kR o b)||(kR o a==kR o b&&decide (0<nR o a o b)))
theorem GV(hS:bk S)(o p:Pt):aM S 2 296 [.agg o.c,.agg p.c] (aB (kR o p)):=by
 refine zg (i:=i296) (hS _ _ M M M M) rfl rfl (bP rfl) 1 Z zp fun m hm d ah t af=>?_;simp[V2,i296,Pt.c,zf]at af;unfold kR;generalize hx:aT .i64 (p.x-o.x)=x;generalize hy:aT .i64 (p.y-o.y)=y;cases h1:decide (0<x)
 .cases h3:decide (x<=0)
  .grind
  .cases h4:decide (0<y)
   .cases h5:decide (x<0)
    .simp only[i296,V0,seval,ez,dZ,bT, *]
    .simp only[i296,V0,seval,ez,dZ,bT,bV, *]
   .simp only[i296,V0,seval,ez,dZ,bT,bV, *]
 .cases h2:decide (0<=y)
  .have h3:decide (x<=0)=false:=by grind
   have h5:decide (x<0)=false:=by grind
   simp only[i296,V0,seval,ez,l7,dZ,bT, *]
  .simp only[i296,V0,seval,ez,l7,bV, *]
theorem Va(hS:bk S)(o a b:Pt):aM S 10 280 [.agg o.c,.agg a.c,.agg b.c] (.bool (fK o a b)):=by
 refine zg (i:=i280) (hS _ _ M M M M) rfl rfl (bP rfl) 9 Z zk fun m hm d ah t af=>?_;simp[V2,Xb,i280,Pt.c,zf]at af;have c0:=fun d ah aJ aa i=>AP hS [o,a,b] M m (by grind) d ah aJ aa i;simp only[eT,jm,Pt.c,gu,fP,zf,fB,gq,eB,Xb]at c0;have cq:∀(u v:Pt) d ah aJ aa i,aL aO S m d ah aJ aa i 296 [.agg [aB u.x,aB u.y],.agg [aB v.x,aB v.y]]=some (.r,aB (kR u v),aa):=fun u v d ah aJ aa i=>GV hS u v m Z d ah aJ aa i;have cc:∀(u v w z:Pt) d ah aJ aa i,aL aO S m d ah aJ aa i 239 [.agg [aB u.x,aB u.y],.agg [aB v.x,aB v.y],.agg [aB w.x,aB w.y],.agg [aB z.x,aB z.y]]=some (.r,aB (nR u v w z),aa):=fun u v w z d ah aJ aa i=>zfh hS u v w z m Z d ah aJ aa i;have e1:∀ u v:Pt,eR [1,1] [aB u.x,aB u.y] [aB v.x,aB v.y]=some (dR u v):=fun u v=>by simp only[eR,eqv,dR];grind
 have fne:∀ b:Bool,(false != b)=b:=fun b=>by simp
 unfold fK;cases hb:[o,a,b].all bg
 .simp[hb]at c0;simp only[i280,V0,seval,af,Zm,c0,dZ]
 .simp[hb]at c0;cases h1:dR a o
  .cases h2:dR b o
   .generalize hqa:kR o a=qa at *;generalize hqb:kR o b=qb at *;cases g1:decide (qa<qb)
    .cases g2:qa==qb
     .simp only[i280,V0,seval,Zm,fne,dZ,jg, *]
     .simp only[i280,V0,seval,Zm,fne,ez,jg, *]
    .simp only[i280,V0,seval,Zm,fne,k9, *]
   .simp only[i280,V0,seval,Zm,fne,nr,dZ, *]
  .simp only[i280,V0,seval,af,Zm,c0,e1,h1,fne,nr,dZ]
def iR(z:Int):Int:=aT .i64 (0-z)
def iy(p:Pn)(z:Int):Int:=bif decide (0<z)then(gM p z).l else bif decide (0<iR z)then(gM p (iR z)).r else 0
def bR(p:Pn)(z:Int):List Pt:=bif decide (0<z)then dW p z else(dW p (iR z)).reverse
def gz(p:Pn)(z:Int):Prop:=if 0<z then cQ p z=true else cQ p (iR z)=true
theorem zy(h:l[i]?=some x):l.take (i+1)=l.take i++[x]:=by rw[jh,h];rfl
theorem JH(hS:bk S)(p:Pn)(z:Int)(hv:bL p):∃ N,aM S N 139 [.agg p.c,aB z] (aB (iy p z)):=by
 obtain⟨q1,hq1,N1,h1⟩:=H6 hS p z (fun f hf=>by have:=hv f hf;omega);obtain⟨q2,lQ,N2,h2⟩:=H6 hS p (iR z) (fun f hf=>by have:=hv f hf;omega);refine⟨N1+N2+11,zg (i:=i139) (hS _ _ M M M M) rfl rfl (bP rfl) (N1+N2+10) Z zp fun m hm d ah t af=>?_⟩;simp[V2,i139,Pn.c]at af;have c1:=h1 m Z;have c2:=h2 m Z;simp only[Pn.c,zf,Ac.c,iR]at c1 c2;unfold iy;cases g1:decide (0<z)
 .cases g2:decide (0<iR z)
  .unfold iR at g2;simp only[i139,V0,Xa,Xe,af,ez,g1,g2,bT]
  .unfold iR at g2;simp only[i139,V0,Xa,Xb,Xe,af,ez,g1,g2,c2,bF,bT,bV];rfl
 .simp only[i139,V0,Xa,Xb,Xe,af,ez,g1,c1,bF,bV];rfl
theorem D6(hS:bk S)(p:Pn)(z:Int)(hv:bL p)(hok:gz p z):∃ q:aR 2 Pt.c,q.l=bR p z/\∃ N,aM S N 207 [.agg p.c,aB z] q.v:=by
 unfold gz at hok;unfold bR;by_cases g1:0<z
 .rw[bU g1]at hok;let⟨q,hq,N,h1⟩:=Fk hS p z hv;rw[hok]at h1;have hd:decide (0<z)=true:=decide_eq_true g1;refine⟨q,by grind,N+11,zr (i:=i207) (hS _ _ M M M M) rfl rfl (bP rfl) (N+10) fun m hm d ah t af=>?_⟩;simp[V2,i207,Pn.c]at af;have c1:=h1 m Z;simp only[Pn.c,zf]at c1;simp only[i207,V0,Xa,Xb,Xe,af,ez,g1,c1,bF];exact⟨_,rfl,zP ZH q m Z _ _⟩
 .rw[b9 g1]at hok;let⟨q,hq,N,h1⟩:=Fk hS p (iR z) hv;rw[hok]at h1;have hq:=hq hok;have pz:=yT hv (iR z);rw[←hq]at pz;have ou:(q.l.reverse).length<9223372036854775808:=by grind
  refine⟨bZ Pt.aV q.l.reverse ou,by rw[(decide_eq_false g1),zM,hq];rfl,N+q.l.length+11,zr (i:=i207) (hS _ _ M M M M) rfl rfl (bP rfl) (N+q.l.length+10) fun m hm d ah t af=>?_⟩;simp[V2,i207,Pn.c]at af;have c1:=h1 m Z;simp only[Pn.c,zf,iR]at c1;simp only[i207,V0,Xa,Xb,Xe,af,ez,g1,c1,bF,(zA rfl Z Z:aT .i64 (((q.l.length:Nat):Int)-1)=((q.l.length:Nat):Int)-1)];refine zm q.l.length (fun i st=>∃(J:aS)(lv:IV),bE Pt.c 2 d 2 J lv (q.l.reverse.take i)/\st.aa=p.o::.free::J/\aN 42 st.t [(7,q.v),(9,lv),(10,aB (((q.l.length:Nat):Int)-1-(i:Int)))]) Z ⟨[],.nilsl,.inl ⟨rfl,rfl⟩,rfl,by simp[V0,Xa,Xe,af,cZ,zny]⟩ ?_;clear af;rintro i ⟨t,aa⟩ KA hi ⟨J,lv,hO,rfl,af⟩ bp bK bQ;simp[za,zb]at af;by_cases h:i<q.l.length
  .have hk:q.l.length-1-i<q.l.length:=Z;obtain⟨x,hx⟩:=fc (l:=q.l) (i:=q.l.length-1-i) hk;have hrd:bB (q.l.flatMap Pt.c) ((q.l.length-1-i)*2) 2=some [aB x.x,aB x.y]:=(zd Pt.aV 0 2 hx Z).trans rfl;have au:(q.l.reverse.take i).length=i:=by grind
   obtain⟨e,cH,J2,bz,cL⟩:=zI (Pre:=[p.o,.free]) (n0:=J.length+1+1) (slot:=0) (k:=0) (ah:=ah) (R:=[.free]) Pt.aV hO (ys:=[x]) M (by grind) (by grind) rfl rfl;exact xag
  .obtain rfl:i=q.l.length:=Z;simp only[V0,Xa,af,l7,(eq_false Z:(0<=((q.l.length:Nat):Int)-1-((q.l.length:Nat):Int))=False)];refine bK _ _ ?_;rw[(fT M)]at hO;simp only[V0,Xa,Xe,af];exact⟨_,rfl,yy (Pre:=[_,_]) Pt.aV ZH Z ou hO⟩
def fk(p:Pn)(z:Int):Pt:=((bR p z)[1]?).getD ⟨0,0⟩
theorem Mi(hS:bk S)(p:Pn)(z:Int)(hv:bL p)(hok:gz p z):∃ N,aM S N 279 [.agg p.c,aB z] (.agg (fk p z).c):=by
 let⟨q,hq,N,h1⟩:=D6 hS p z hv hok;have h2:2<=q.l.length:=by
  rw[hq];unfold bR;cases decide (0<z)
  .rw[bT,Vy];exact(yT hv _).1
  .exact(yT hv _).1
 have ou:=q.eZ;have hx:q.l[1]?=some q.l[1]:=dw Z;rw[(show fk p z=q.l[1] by unfold fk;grind)];generalize q.l[1]=x at hx;have hrd:bB (q.l.flatMap Pt.c) 2 2=some [aB x.x,aB x.y]:=(zd (i:=1) Pt.aV 0 2 hx Z).trans rfl;refine⟨N+11,zr (i:=i279) (hS _ _ M M M M) rfl rfl (bP rfl) (N+10) fun m hm d ah t af=>?_⟩;simp[V2,i279,Pn.c]at af;have c1:=h1 m Z;simp[Pn.c]at c1;have kX:∀ aa,cu aa 2 q.v (aB 1)=some (.p,.ptrC (q.l.flatMap Pt.c) 2,aa):=fun aa=>zc q (i:=1) Z;simp only[i279,V0,Xa,Xb,Xe,af,c1,(eq_false Z:(((q.l.length:Nat):Int)<2)=False),kX,hrd];exact xe6
def cD(node:Int)(a:Ac):List Int:=(if (a.fr==node)=true then[a.id]else[])++(if (a.to==node)=true then[iR a.id]else[])
def bu(p:Pn)(node:Int):List Int:=p.az.l.flatMap (cD node)
def My(g:H->List IV)(sz d:Nat)(Q:aS)(lv:IV)(xs:List H):Prop:=(xs=[]/\lv=.nilsl)∨∃ b,xs≠[]/\lv=.slM d b 0 xs.length xs.length sz false/\Q[b]?=some (aH (xs.flatMap g))
section
variable {g:H->List IV} {Q:aS} 
theorem My.more(h:My g sz d Q lv xs)(R:aS):My g sz d (Q++R) lv xs:=by
 rcases h with h|⟨b,h1,h2,h3⟩
 .exact .inl h
 .exact .inr ⟨b,h1,h2,by grind⟩
theorem zf0{Pre:aS}(h:bE g sz d Pre.length J lv xs):My g sz d (Pre++J) lv xs:=by
 rcases h with h|⟨b,h1,h2,h3⟩
 .exact .inl h
 .exact .inr ⟨_,h1,h2,by grind⟩
theorem My.len(h:My g sz d Q lv xs){D:Nat}{aa:aS}:iY D ah aJ aa 1 lv=some (.p,aB (xs.length:Nat),aa):=by
 rcases h with⟨rfl,rfl⟩|⟨b,h1,rfl,h3⟩
 .rfl
 rfl
theorem Oa{o:aP}(h:Q[b]?=some o)(R:aS):(Q++R)[b]?=some o:=by grind
theorem Yq{o:aP}(h:Q[b]?=some o)(vis:List Nat)(k:Nat)(R:aS):(bI vis (Q.length+k) (Q++R))[b]?=some o:=by have hb:=(ew.1 h).1;rw[zu,Oa h,iJ];grind
def Yr{o:aP}(h:Q[b]?=some o)(vis:List Nat)(R:aS):(bI vis Q.length (Q++R))[b]?=some o:=Yq h vis 0 R
end
theorem Mp(hS:bk S)(p:Pn)(hl:p.az.l.length<=100000)(node:Int){m d:Nat}{ah:bq}(hm:p.az.l.length+10<=m){K:eU}(t:List IV)(O1 O2:aP)(af:aN 127 t [(1,aB node),(2,.ptrM d 0 0),(5,.ptrM d 2 0),(7,.nilsl)])
  (hK:∀ t' J lv,bE aK 1 d 3 J lv (bu p node)->aN 127 t' [(2,.ptrM d 0 0),(5,.ptrM d 2 0),(7,lv)]->K .normal ⟨t',p.o::O1::O2::J⟩) :
  Ex (aL aO S m) d ah m (i242.body.sub [1,1,1,1,0]) K ⟨t,[p.o,O1,O2]⟩:=by
 simp[za,zb]at af
 simp[i242,IC.sub,V0,Xb]
 refine zm p.az.l.length (fun i st=>∃(J:aS)(lv:IV),bE aK 1 d 3 J lv ((p.az.l.take i).flatMap (cD node))/\st.aa=p.o::O1::O2::J/\aN 127 st.t [(1,aB node),(2,.ptrM d 0 0),(5,.ptrM d 2 0),(7,lv),(8,iv i)]) Z ⟨[],.nilsl,.inl ⟨rfl,rfl⟩,rfl,by simp[V0,Xa,Xe,af,cZ]⟩ ?_
 clear af
 rintro i ⟨t,aa⟩ KA hi ⟨J,lv,hO,rfl,af⟩ bp bK bQ
 simp[za,zb,zf]at af
 by_cases h:i<p.az.l.length
 rotate_left
 .simp[V0,Xa,Xe,af,h]
  exact xew
 obtain⟨x,hx⟩:=fc (l:=p.az.l) (i:=i) h
 have s8:bB (p.az.l.flatMap Ac.c) (i*6) 1=some [aB x.id]:=xb2
 have jE:bB (p.az.l.flatMap Ac.c) (i*6+1) 1=some [aB x.fr]:=(zd Ac.aV 1 1 hx Z).trans rfl
 have hr2:bB (p.az.l.flatMap Ac.c) (i*6+2) 1=some [aB x.to]:=(zd Ac.aV 2 1 hx Z).trans rfl
 have hw:=zt i
 have pL:(p.az.l.take (i+1)).flatMap (cD node)=(p.az.l.take i).flatMap (cD node)++cD node x:=by rw[zy hx,Bh];simp
 have ou:((p.az.l.take i).flatMap (cD node)).length<=2*i:=by
  exact xa7
 have one:∀(z:Int)(J R:aS)(lv:IV)(xs:List Int)(n0:Nat),bE aK 1 d 3 J lv xs->xs.length<=300000->n0=J.length+R.length+1+1+1->∃ e cH J2,aY d n0 (look d ah (p.o::O1::O2::(J++(R++[.free])))) (p.o::O1::O2::(J++(R++[.free]))) 1 lv [aB z] 1 0=some (e,cH,p.o::O1::O2::J2)/\bE aK 1 d 3 J2 cH (xs++[z]):=fun z J R lv xs n0 hO hx hn=>by have:=zI (Pre:=[p.o,O1,O2]) (n0:=n0) (slot:=0) (k:=R.length) (ah:=ah) (R:=R++[.free]) ze hO (ys:=[z]) M (by grind) (by grind) M rfl;simp only[gu,fP,eT,jm,aK,zf,fB,gq,gF,eB]at this;omega
 have step:∀(t:List IV)(J:aS)(lv:IV),bE aK 1 d 3 J lv ((p.az.l.take (i+1)).flatMap (cD node))->aN 127 t [(1,aB node),(2,.ptrM d 0 0),(5,.ptrM d 2 0),(7,lv),(8,aB ((i+1:Nat):Int))]->KA .normal ⟨t,p.o::O1::O2::J⟩:=fun t J lv hO ht=>bp Z _ ⟨J,lv,hO,rfl,ht⟩
 rw[pL]at step
 cases g1:x.fr==node
 .cases g2:x.to==node
  .rw[(show cD node x=[] by simp[cD,g1,g2])]at step
   simp only[V0,Xa,Xe,zc p.az h, *]
   exact step _ J lv (by grind) xap
  .rw[(show cD node x=[iR x.id] by simp[cD,g1,g2])]at step
   let⟨e,cH,J2,bz,cL⟩:=one (iR x.id) J [] lv _ (J.length+1+1+1) hO Z M
   simp only[fP,iR]at bz
   exact xec
 .let⟨e,cH,J2,bz,cL⟩:=one x.id J [] lv _ (J.length+1+1+1) hO Z M
  simp[fP]at bz
  cases g2:x.to==node
  .rw[(show cD node x=[x.id] by simp[cD,g1,g2])]at step
   exact xec
  .rw[(show cD node x=[x.id,iR x.id] by simp[cD,g1,g2])]at step
   let⟨e2,qw,J3,adf,I8⟩:=one (iR x.id) J2 [] cH _ (J2.length+1+1+1) cL (by grind) M
   simp only[fP,iR]at adf
   simp only[V0,Xa,Xe,zc p.az h,rep,zh,zl,zq,zw, *]
   exact step _ J3 qw (by grind) xap
section
variable {g:H->List IV} 
theorem FL{aa:aS}(h:b<n0):look d ah (bI vis n0 aa) d b=aa[b]?:=by unfold look;rw[bU rfl,zu];grind
theorem KX(hs:∀ a,(g a).length=sz){Pre:aS}(h:bE g sz d Pre.length J lv xs)(hy:ys.length≠0)(hx:xs.length+ys.length<=1073741824)(hn:n0=Pre.length+J.length)(hk:slot=k)(hf:R[k]?=some .free)
  (hsc:(ys.flatMap g).all IV.scalar=true) :
  ∃ e cH J2,aY d n0 (look d ah (bI vis n0 (Pre++(J++R)))) (Pre++(J++R)) sz lv (ys.flatMap g) ys.length slot=some (e,cH,Pre++J2)/\bE g sz d Pre.length J2 cH (xs++ys)/\(∀ l o n,comm (.rl d l o n) e=true->True):=by
 subst hn hk
 obtain⟨e,cH,J2,h1,h2⟩:=zI (n0:=Pre.length+J.length) (slot:=slot) (k:=slot) (ah:=ah) hs h hy hx Z hf hsc
 refine⟨e,cH,J2,?_,h2,fun _ _ _ _=>trivial⟩
 rw[←h1]
 rcases h with⟨rfl,rfl⟩|⟨b,hne,rfl,hb⟩
 .rfl
 .have th:=(ew.1 hb).1
  have e1:look d ah (bI vis (Pre.length+J.length) (Pre++(J++R))) d (Pre.length+b)=look d ah (Pre++(J++R)) d (Pre.length+b):=by rw[FL Z];unfold look;simp
  unfold aY
  grind
end
theorem GU(hS:bk S)(p:Pn)(ds:List Int)(hl:ds.length<=300000){m d:Nat}{ah:bq}(hm:ds.length+10<=m)(TP:∀ z∈ds,∀ d ah aJ aa id,aL aO S m d ah aJ aa id 279 [.agg [p.ns.v,p.az.v,p.fs.v],aB z]=some (.r,.agg [aB (fk p z).x,aB (fk p z).y],aa)){K:eU}(t:List IV)(Q:aS)(dv:IV)(qz:Q[0]?=some (p.o))(hD:My aK 1 d Q dv ds)(af:aN 127 t [(2,.ptrM d 0 0),(5,.ptrM d 2 0),(7,dv)])
  (hK:∀ t' J lv,bE Pt.c 2 d Q.length J lv (ds.map (fk p))->aN 127 t' [(2,.ptrM d 0 0),(5,.ptrM d 2 0),(7,dv),(9,lv)]->K .normal ⟨t',Q++J⟩) :
  Ex (aL aO S m) d ah m (.seq (i242.body.sub [1,1,1,1,1,0]) (i242.body.sub [1,1,1,1,1,1,0])) K ⟨t,Q⟩:=by
 simp[za,zb]at af
 simp[i242,IC.sub,V0]
 refine zm ds.length (fun i st=>∃(J:aS)(lv:IV),bE Pt.c 2 d Q.length J lv ((ds.take i).map (fk p))/\st.aa=Q++J/\aN 127 st.t [(2,.ptrM d 0 0),(5,.ptrM d 2 0),(7,dv),(9,lv),(10,iv i)]) Z ⟨[],.nilsl,.inl ⟨M,rfl⟩,M,by simp[V0,Xa,Xe,af,cZ]⟩ ?_
 clear af
 rintro i ⟨t,aa⟩ KA hi ⟨J,lv,hO,rfl,af⟩ bp bK bQ
 simp[za,zb,zf]at af
 by_cases h:i<ds.length
 rotate_left
 .simp[V0,Xa,Xe,af,(fun{D:Nat}{ah:bq}{aJ aa:aS}=>hD.len (D:=D) (ah:=ah) (aJ:=aJ) (aa:=aa)),h]
  exact xew
 rcases hD with⟨rfl,rfl⟩|⟨b,hne,rfl,hb⟩
 .grind
 have hx:ds[i]?=some ds[i]:=dw h
 have cz:=TP _ (gQ h)
 generalize ds[i]=z at hx cz
 have gE:bB (ds.flatMap aK) (i*1) 1=some [aB z]:=xbu
 have hw:=zt i
 have au:((ds.take i).map (fk p)).length=i:=by grind
 obtain⟨e,cH,J2,bz,cL,-⟩:=KX (n0:=Q.length+J.length) (slot:=1) (k:=1) (ah:=ah) (vis:=[0]) (R:=[.free,.free]) Pt.aV hO (ys:=[fk p z]) M (by grind) rfl rfl rfl rfl
 simp[eT,jm,Pt.c,zf,fB,gq,gF,eB]at bz
 rw[show(ds.take i).map (fk p)++[fk p z]=(ds.take (i+1)).map (fk p) by rw[zy hx,Hi];rfl]at cL
 have EO:∀(lk:Nat->Nat->Option aP)(a b:IV),bW lk 2 (.slC [a,b] 1 2 true)=some ([a,b],1):=fun lk a b=>rfl
 simp only[V0,Xa,Xb,Xe,zo,Yq qz,Yq hb,rep,zh,zl,zq, *]
 exact bp Z _ ⟨J2,cH,cL,rfl,by simp[V0,Xa,Xe,af]⟩
def pg(lt:H->H->Bool)(l:List H)(x:H)(n:Nat):Nat:=((l.take n).filter fun y=>lt y x).length
theorem KF{lt:H->H->Bool}(h:l[n]?=some y):pg lt l x (n+1)=pg lt l x n+(if lt y x=true then 1 else 0):=by unfold pg;rw[zy h,MY,mV];grind
theorem Tb{lt:H->H->Bool}:pg lt l x n<=n:=by unfold pg;grind
def rQ(lt:H->H->Bool)(l:List H):List Nat:=l.map fun x=>pg lt l x l.length
def pick(ds:List I)(rk:List Nat)(r:Nat):Option I:=(rk.findIdx? fun x=>x==r).bind fun i=>ds[i]?
def jQ{I:Type}(ds:List I)(rk:List Nat):Nat->Option (List I)
 |0=>some []
 |r+1=>(jQ ds rk r).bind fun l=>(pick ds rk r).map fun x=>l++[x]
theorem uv{I:Type}{ds:List I}{rk:List Nat}:∀{r:Nat}{l:List I},jQ ds rk r=some l->l.length=r
 |0,l,h=>by simp only[jQ,iw]at h;grind
 |r+1,l,h=>by
  simp[jQ]at h;cases h1:jQ ds rk r with
  |none=>grind
  |some l0 =>
   rw[h1,iD]at h
   cases h2:pick ds rk r with
   |none=>grind
   |some x =>
    rw[h2]at h
    simp[iJ,iw]at h
    subst h
    rw[mV,uv h1]
    rfl
theorem zf1{I:Type}{ds:List I}{rk:List Nat}{r:Nat}(h:jQ ds rk r=none):∀ k,jQ ds rk (r+k)=none
 |0=>h
 |k+1=>by rw[←tq];simp[jQ,(zf1 h k),znv]
def BI(ds:List I)(rk:List Nat):List I:=(jQ ds rk ds.length).getD []
theorem JI(hS:bk S)(c:Pt)(to:List Pt)(hl:to.length<=300000){m d:Nat}{ah:bq}(hm:to.length+12<=m){K:eU}(t:List IV)(Q J:aS)(tv dv lv:IV)(ds:List Int)(hdl:ds.length=to.length)(i:Nat)(x:Pt)(hx:to[i]?=some x)(n0:Int)
  (Pv:Q[2]?=some (aH [aB n0,aB c.x,aB c.y])) (hD:My aK 1 d Q dv ds) (hT:My Pt.c 2 d Q tv to) (af:aN 127 t [(5,.ptrM d 2 0),(7,dv),(9,tv),(11,lv),(12,iv i)])
  (hK:∀ t' R,aN 127 t' [(5,.ptrM d 2 0),(7,dv),(9,tv),(11,lv),(12,iv i),(13,iv (pg (fK c) to x to.length:Nat))]->K .normal ⟨t',Q++(J++R)⟩) :
  Ex (aL aO S m) d ah m (.seq (i242.body.sub [1,1,1,1,1,1,1,1,0,0,0,1,0,1,0,0,1,0,0,0]) (i242.body.sub [1,1,1,1,1,1,1,1,0,0,0,1,0,1,0,0,1,0,0,1,0])) K ⟨t,Q++J⟩:=by
 simp[za,zb,zf]at af
 simp[i242,IC.sub,V0]
 refine zm to.length (fun k st=>∃(R:aS),st.aa=Q++(J++R)/\aN 127 st.t [(5,.ptrM d 2 0),(7,dv),(9,tv),(11,lv),(12,iv i),(13,iv (pg (fK c) to x k:Nat)),(14,iv k)]) Z ⟨[],M,by simp only[V0,Xa,Xe,af,cZ];rfl⟩ ?_
 clear af
 rintro k ⟨t,aa⟩ KA hk ⟨R,rfl,af⟩ bp bK bQ
 simp[za,zb,zf]at af
 have hlen:=fun{D:Nat}{ah:bq}{aJ aa:aS}=>hD.len (D:=D) (ah:=ah) (aJ:=aJ) (aa:=aa)
 rw[hdl]at hlen
 by_cases h:k<to.length
 rotate_left
 .simp[V0,Xa,Xe,af,hlen,h]
  refine bK _ _ ?_
  obtain rfl:k=to.length:=Z
  simp[V0]
  exact hK _ R xay
 have hii:=(ew.1 hx).1
 rcases hT with⟨rfl,rfl⟩|⟨b,hne,rfl,hb⟩
 .grind
 obtain⟨y,hy⟩:=fc (l:=to) (i:=k) h
 have jE:bB (to.flatMap Pt.c) (i*2) 2=some [aB x.x,aB x.y]:=(zd Pt.aV 0 2 hx Z).trans rfl
 have hr2:bB (to.flatMap Pt.c) (k*2) 2=some [aB y.x,aB y.y]:=xdy
 have hw:=zt k
 have hrk:=Tb (lt:=fK c) (l:=to) (x:=x) (n:=k)
 have hst:=KF (lt:=fK c) (x:=x) hy
 have cl:=Va hS c y x m Z
 simp[Pt.c,zf]at cl
 cases g:fK c y x
 .rw[g,b9 M,tY]at hst
  exact xdg
 .rw[g,bU rfl]at hst
  have RX:aT .i64 (((pg (fK c) to x k:Nat):Int)+1)=((pg (fK c) to x k+1:Nat):Int):=oS
  exact xdg
end
variable {H I:Type}{ds:List I}
section
variable {lt:H->H->Bool} {s:I->H}
theorem Tj:∀{A B:List I}{x:I},(∀ a∈A,lt (s a) (s x)=true)->(∀ b∈B,lt (s b) (s x)=false)->lt (s x) (s x)=false->((A++x::B).filter fun y=>lt (s y) (s x)).length=A.length:=fun{A B x} hA hB hx=>by rw[MY,MZ,hx,b9 M,mV,zm6.2 hA,zmj.2 (fun b hb=>by grind)];rfl
theorem NT{i:Nat}{x:I}(hx:ds[i]?=some x):(rQ lt (ds.map s))[i]?=some ((ds.filter fun y=>lt (s y) (s x)).length):=by unfold rQ;rw[qn,qn,hx];show some (pg lt (ds.map s) (s x) (ds.map s).length)=_;unfold pg;rw[rD,List.filter_map,qE];rfl
theorem Ff{L:List I}(hp:L.Perm ds)(hP:L.Pairwise fun a b=>lt (s a) (s b)=true)(asy:∀ a∈ds,∀ b∈ds,lt (s a) (s b)=true->lt (s b) (s a)=false)(irr:∀ a∈ds,lt (s a) (s a)=false):BI ds (rQ lt (ds.map s))=L:=by
 have O5:∀(r:Nat)(x:I),L[r]?=some x->(ds.filter fun y=>lt (s y) (s x)).length=r:=fun r x hx=>by
  have agj:L=L.take r++x::L.drop (r+1):=by
   rw[←MJ r L];congr 1
   .grind
   .rw[MJ,EU (ew.1 hx).1,(ew.1 hx).2]
  rw[←(hp.filter _).length_eq];rw[agj]at hP hp;rw[zks,vV]at hP;obtain⟨_,⟨h1,_⟩,h2⟩:=hP;have tL:x∈ds:=hp.mem_iff.1 M;have:=Tj (lt:=lt) (s:=s) (A:=L.take r) (B:=L.drop (r+1)) (x:=x) (fun a ha=>h2 a ha x (qj ..)) (fun b hb=>asy x tL b (hp.mem_iff.1 (by grind)) (h1 b hb)) (irr x tL);grind
 have C3:∀(r:Nat)(x:I),L[r]?=some x->pick ds (rQ lt (ds.map s)) r=some x:=fun r x hx=>by
  let⟨i0,hi0⟩:=rj (hp.mem_iff.1 (og hx));have hk0:=NT (lt:=lt) (s:=s) hi0;rw[O5 r x hx]at hk0;unfold pick;cases hf:(rQ lt (ds.map s)).findIdx? (fun x=>x==r)with
  |none =>
   have:=zkd.1 hf r (og hk0)
   grind
  |some i =>
   obtain⟨hil,hi,_⟩:=EW.1 hf
   have hlen:(rQ lt (ds.map s)).length=ds.length:=by unfold rQ;simp
   have hid:i<ds.length:=Z
   have hk:=NT (lt:=lt) (s:=s) (dw hid)
   let⟨j,hj⟩:=rj (hp.mem_iff.2 (gQ hid))
   grind
 have hsel:∀ r,r<=L.length->jQ ds (rQ lt (ds.map s)) r=some (L.take r):=fun r=>by
  induction r with
  |zero=>intro _;rfl
  |succ r ih =>
   intro h
   have hx:=dw (show r<L.length by omega)
   show((jQ ds (rQ lt (ds.map s)) r).bind fun l=>(pick ds (rQ lt (ds.map s)) r).map fun x=>l++[x])=_
   rw[ih Z,iD,C3 r _ hx,jh,hx]
   rfl
 unfold BI;rw[←hp.length_eq,hsel _ (cI _),rD];rfl
end
def sm{H:Type}(f:H->Int):List H->Int
 |[]=>0
 |x::l=>f x+sm f l
variable {l:List H}
section
variable {f g:H->Int} {r:List H}
theorem Yf:sm f (l++r)=sm f l+sm f r:=by
 induction l with
 |nil=>simp[sm]
 |cons x l ih=>simp[gu,sm,ih];omega
theorem XB{h:I->H}{l:List I}:sm f (l.map h)=sm (fun x=>f (h x)) l:=by
 induction l with
 |nil=>rfl
 |cons x l ih=>simp[mQ,sm,ih]
theorem zf2(h:∀ x∈l,f x=g x):sm f l=sm g l:=by
 induction l with
 |nil=>rfl
 |cons x l ih=>simp[sm,h x (qj ..),ih fun y hy=>h y (tj _ hy)]
end
structure Dt(S:Type) where
 s:S
 up:Bool
structure sV(S:Type) where
 L:Int->List S
 P:Int->List S
 D:Int->List S
 U:Int->List S
 Q:Int->List S
 lo:S->Int
 hi:S->Int
 below:∀ m,L (m-1)=P m++(D m++Q m)
 above:∀ m,L m=P m++(U m++Q m)
 nodup:∀ m,(L m).Nodup
 lt:∀ s,lo s<hi s
 mem:∀ m s,s∈L m↔lo s<=m/\m<hi s
 ends:∀ m s,s∈D m↔hi s=m
 rL:∀ m s,s∈U m↔lo s=m
variable {m:Int}
section
variable {S:Type} [DecidableEq S] {T:sV S} {σ:S->Int} {s t:S}
def sV.ring(T:sV S)(m:Int):List (Dt S):=(T.U m).reverse.map (⟨·,true⟩)++(T.D m).map (⟨·,false⟩)
def b2(b:Bool):Int:=if b then 1 else 0
def sg(f:Dt S->Bool)(s:S):Int:=b2 (f ⟨s,true⟩)-b2 (f ⟨s,false⟩)
variable {f:Dt S->Bool}
end
abbrev Ix(n:Nat):Type:=_root_.Fin n
structure ep(n:Nat) where
 lo:Ix n->Int
 hi:Ix n->Int
 rp:Int->Ix n->Int
 lt:∀ i,lo i<hi i
 xgr:∀ i j h,i≠j->lo i<=h->h<=hi i->lo j<=h->h<=hi j->rp h i=rp h j->(lo i=h∨hi i=h)/\(lo j=h∨hi j=h)
 C:∀ i j h,lo i<=h->h<hi i->lo j<=h->h<hi j->¬ (rp h i<rp h j/\rp (h+1) j<rp (h+1) i)
 V:∀ i j h,lo i=h∨hi i=h->lo j=h∨hi j=h->rp h i=rp h j
 W:∀ i j h,i≠j->lo i<=h->h<hi i->lo j<=h->h<hi j->¬ (rp h i=rp h j/\rp (h+1) i=rp (h+1) j)
variable {n:Nat}{i j:Ix n}
section
variable (R:ep n) 
def ep.key(m:Int)(i:Ix n):Int:=R.rp m i+R.rp (m+1) i
def ep.L(m:Int):List (Ix n):=((List.finRange n).filter fun i=>decide (R.lo i<=m)&&decide (m<R.hi i)).mergeSort fun i j=>decide (R.key m i<=R.key m j)
theorem ep.mT:i∈R.L m↔R.lo i<=m/\m<R.hi i:=by unfold ep.L;simp_all
def ep.ry:(R.L m).Nodup:=(List.mergeSort_perm _ _).nodup_iff.2 ((List.nodup_finRange n).filter _)
theorem ep.aad(hi:i∈R.L m)(hj:j∈R.L m)(h:i≠j):R.key m i≠R.key m j:=by rw[R.mT]at hi hj;have c1:=R.C i j m hi.1 hi.2 hj.1 hj.2;have c2:=R.C j i m hj.1 hj.2 hi.1 hi.2;have w:=R.W i j m h hi.1 hi.2 hj.1 hj.2;unfold ep.key;omega
theorem ep.l8:(R.L m).Pairwise fun i j=>R.key m i<R.key m j:=by refine((znt (fun a b c h1 h2=>by grind) (fun a b=>by grind) _).and R.ry).imp_of_mem fun ha hb aq=>?_;have:=R.aad ha hb aq.2;grind
theorem ep.rA(hi:i∈R.L m)(hj:j∈R.L m)(h:R.key m i<R.key m j):R.rp m i<=R.rp m j/\R.rp (m+1) i<=R.rp (m+1) j:=by rw[R.mT]at hi hj;have c1:=R.C i j m hi.1 hi.2 hj.1 hj.2;have c2:=R.C j i m hj.1 hj.2 hi.1 hi.2;unfold ep.key at h;omega
theorem classes{H:Type}(c:H->Nat)(hc:∀ a,c a<=2):∀{l:List H},l.Pairwise (fun a b=>c a<=c b)->l=l.filter (fun a=>decide (c a=0))++(l.filter (fun a=>decide (c a=1))++l.filter (fun a=>decide (c a=2)))
 |[],_=>rfl
 |x::l,h=>by
  rw[vV]at h;have ih:=classes c hc h.2;have no:∀ k,k<c x->l.filter (fun a=>decide (c a=k))=[]:=fun k hk=>zmj.2 fun a ha=>by grind
  have hx:=hc x;rcases(by omega:c x=0∨c x=1∨c x=2)with e|e|e
  .grind
  .rw[no 0 Z]at ih;simp only[MZ,e,decide_true,if_true];simp only[no 0 Z];grind
  .rw[no 0 Z,no 1 Z]at ih;simp only[MZ,e,decide_true,if_true];simp only[no 0 Z,no 1 Z];grind
def ep.at'(m:Int):Int:=open Classical in if h:∃ i,R.lo i=m∨R.hi i=m then R.rp m h.choose else 0
theorem ep.at_end(h:R.lo i=m∨R.hi i=m):R.rp m i=R.at' m:=by unfold ep.at';have hx:∃ i,R.lo i=m∨R.hi i=m:=⟨i,h⟩;rw[dif_pos hx];exact R.V _ _ _ h hx.choose_spec
def ep.up(m:Int)(i:Ix n):Nat:=if R.lo i=m then 1 else if R.rp m i<R.at' m then 0 else 2
def ep.dn(m:Int)(i:Ix n):Nat:=if R.hi i=m then 1 else if R.rp m i<R.at' m then 0 else 2
theorem ep.Sy:(R.L m).Pairwise fun i j=>R.up m i<=R.up m j:=R.l8.imp_of_mem fun{i j} ha hb aq=>by
 have hl:=R.rA ha hb aq;rw[R.mT]at ha hb;unfold ep.up;by_cases h1:R.lo i=m
 .have e1:=R.at_end (.inl h1);grind
 .rw[b9 h1];by_cases h2:R.lo j=m
  .have e2:=R.at_end (.inl h2);by_cases h3:R.rp m i<R.at' m
   .grind
   .have z:=R.xgr i j m (fun h=>by grind) ha.1 Z hb.1 Z Z;omega
  grind
theorem ep.Uv:(R.L (m-1)).Pairwise fun i j=>R.dn m i<=R.dn m j:=R.l8.imp_of_mem fun{i j} ha hb aq=>by
 have hl:=R.rA ha hb aq;rw[show m-1+1=m by omega]at hl;rw[R.mT]at ha hb;unfold ep.dn;by_cases h1:R.hi i=m
 .have e1:=R.at_end (.inr h1);grind
 .rw[b9 h1];by_cases h2:R.hi j=m
  .have e2:=R.at_end (.inr h2);by_cases h3:R.rp m i<R.at' m
   .grind
   .have z:=R.xgr i j m (fun h=>by grind) Z Z Z Z Z;omega
  grind
theorem ep.abh(i:Ix n):R.up m i<=2:=by unfold ep.up;split;omega;split<;>omega
theorem ep.adm(i:Ix n):R.dn m i<=2:=by unfold ep.dn;split;omega;split<;>omega
theorem ep.Im(k:Nat)(hk:k≠1):(R.L (m-1)).filter (fun a=>decide (R.dn m a=k))=(R.L m).filter (fun a=>decide (R.up m a=k)):=by
 refine zmb (le:=fun i j=>R.rp m i<R.rp m j) (fun a b _ _ h1 h2=>by omega) ?_ ?_ ((zl2 (R.ry.filter _) (R.ry.filter _)).2 fun i=>?_)
 .refine(R.l8.filter _).imp_of_mem fun{i j} ha hb aq=>?_;simp[EP,pM]at ha hb;have hl:=R.rA ha.1 hb.1 aq;rw[show m-1+1=m by omega]at hl;have a1:=(R.mT).1 ha.1;have b1:=(R.mT).1 hb.1;have b2:R.hi j≠m:=fun h=>by have:=hb.2;unfold ep.dn at this;grind
  exact xdc
 .refine(R.l8.filter _).imp_of_mem fun{i j} ha hb aq=>?_;simp[EP,pM]at ha hb;have hl:=R.rA ha.1 hb.1 aq;have a1:=(R.mT).1 ha.1;have b1:=(R.mT).1 hb.1;have b2:R.lo j≠m:=fun h=>by have:=hb.2;unfold ep.up at this;grind
  exact xdc
 .simp[EP,pM,R.mT];unfold ep.dn ep.up;grind
def ep.fU:sV (Ix n) where
 L:=R.L
 P m:=(R.L m).filter fun a=>decide (R.up m a=0)
 D m:=(R.L (m-1)).filter fun a=>decide (R.dn m a=1)
 U m:=(R.L m).filter fun a=>decide (R.up m a=1)
 Q m:=(R.L m).filter fun a=>decide (R.up m a=2)
 lo:=R.lo
 hi:=R.hi
 below m:=by rw[←R.Im 0 M,←R.Im 2 M];exact classes (R.dn m) R.adm R.Uv
 above m:=classes (R.up m) R.abh R.Sy
 nodup m:=R.ry
 lt:=R.lt
 mem m i:=R.mT
 ends m i:=by simp[EP,pM,R.mT];unfold ep.dn;have:=R.lt i;grind
 rL m i:=by simp[EP,pM,R.mT];unfold ep.up;have:=R.lt i;grind
end
def tw(a b p:Pt):Int:=(b.x-a.x)*(p.y-a.y)-(b.y-a.y)*(p.x-a.x)
def Pt.h(p:Pt):Int:=8388608*p.y-p.x
def Pt.near(p:Pt):Prop:=-2097152<=p.x/\p.x<=2097152/\-2097152<=p.y/\p.y<=2097152
variable {q:Pt}
theorem Xi{p:Pt}(hp:p.near)(hq:q.near)(h:p.h=q.h):p=q:=by unfold Pt.near at hp hq;unfold Pt.h at h;have hy:p.y=q.y:=Z;cases p;simp_all
def opp(u v:Int):Prop:=¬ (0<u/\0<v)/\¬ (u<0/\v<0)
def nw(a b c d:Pt):Prop:=(tw a b c=0/\tw a b d=0/\dc a b c d≠0)∨(¬ (tw a b c=0/\tw a b d=0)/\opp (tw a b c) (tw a b d)/\opp (tw c d a) (tw c d b))
structure bO(n:Nat) where
 A:Ix n->Pt
 B:Ix n->Pt
 qJ:∀ i,(A i).near
 qI:∀ i,(B i).near
 ne:∀ i,A i≠B i
 meet:∀ i j,i≠j->nw (A i) (B i) (A j) (B j)->(∃ P,(P=A i∨P=B i)/\(P=A j∨P=B j))/\(tw (A i) (B i) (A j)=0->tw (A i) (B i) (B j)=0->dc (A i) (B i) (A j) (B j)=1)
theorem zf4{a b c d:Pt}{κ:Pt->Int}(hb:∀ p q,p∈[a,b,c,d]->q∈[a,b,c,d]->jk p q=decide (κ p<κ q))(hi:∀ p q,p∈[a,b,c,d]->q∈[a,b,c,d]->dR p q=decide (κ p=κ q)) :
  dc a b c d=if max (min (κ a) (κ b)) (min (κ c) (κ d))=min (max (κ a) (κ b)) (max (κ c) (κ d))then 1 else if max (min (κ a) (κ b)) (min (κ c) (κ d))<min (max (κ a) (κ b)) (max (κ c) (κ d))then 2 else 0:=by
 have key:∀ p q,p∈[a,b,c,d]->q∈[a,b,c,d]->(jC p q).1∈[a,b,c,d]/\(jC p q).2∈[a,b,c,d]/\κ (jC p q).1=min (κ p) (κ q)/\κ (jC p q).2=max (κ p) (κ q):=fun p q hp hq=>by unfold jC;grind
 let⟨a1,a2,a3,a4⟩:=key a b M M
 let⟨c1,c2,c3,c4⟩:=key c d M M
 unfold dc
 have f1:∃ f,f∈[a,b,c,d]/\(bif decide (κ (jC a b).1<κ (jC c d).1)then(jC c d).1 else(jC a b).1)=f/\κ f=max (min (κ a) (κ b)) (min (κ c) (κ d)):=by grind
 grind
theorem w9{p:Pt}:dR p q=true↔p=q:=by unfold dR;cases p;cases q;simp
theorem LU(f:Ix n->Int)(h:∀ i,f i≠0):∃ PI:Int,0<PI/\∀ i,f i∣PI:=by
 have key:∀ l:List (Ix n),∃ PI:Int,0<PI/\∀ i∈l,f i∣PI:=by
  intro l;induction l with
  |nil=>exact⟨1,M,fun _ h=>by grind⟩
  |cons x l ih =>
   let⟨p,h1,h2⟩:=ih
   refine⟨p*(f x*f x),MX h1 ?_,fun i hi=>?_⟩
   .rcases Int.lt_or_gt_of_ne (h x)with hx|hx
    .exact Sk hx hx
    .exact MX hx hx
   .rcases eG.1 hi with rfl|hi
    .exact Int.dvd_trans (Int.dvd_mul_right ..) (Int.dvd_mul_left ..)
    .exact Int.dvd_trans (h2 i hi) (Int.dvd_mul_right ..)
 let⟨p,h1,h2⟩:=key (List.finRange n);exact⟨p,h1,fun i=>h2 i (List.mem_finRange i)⟩
variable {PI:Int}
section
variable (Dr:bO n) {h:Int}
def bO.hne(i:Ix n):(Dr.B i).h-(Dr.A i).h≠0:=fun h=>Dr.ne i (Xi (Dr.qJ i) (Dr.qI i) Z)
def bO.c(PI:Int)(i:Ix n):Int:=PI/((Dr.B i).h-(Dr.A i).h)
def bO.be(PI:Int)(i:Ix n):Int:=((Dr.B i).x-(Dr.A i).x)*Dr.c PI i
def bO.rp(PI h:Int)(i:Ix n):Int:=(Dr.A i).x*PI+Dr.be PI i*(h-(Dr.A i).h)
def bO.c_eq(hd:((Dr.B i).h-(Dr.A i).h)∣PI):Dr.c PI i*((Dr.B i).h-(Dr.A i).h)=PI:=Int.ediv_mul_cancel hd
theorem bO.ad4(hd:((Dr.B i).h-(Dr.A i).h)∣PI)(P:Pt):Dr.rp PI P.h i-P.x*PI=Dr.c PI i*(8388608*tw (Dr.A i) (Dr.B i) P):=by have e:=Dr.c_eq hd;unfold bO.rp bO.be tw Pt.h at *;grind
theorem bO.ahe(i:Ix n):Dr.rp PI (Dr.A i).h i=(Dr.A i).x*PI:=by unfold bO.rp;simp
theorem bO.ahd(hd:((Dr.B i).h-(Dr.A i).h)∣PI):Dr.rp PI (Dr.B i).h i=(Dr.B i).x*PI:=by have e:=Dr.c_eq hd;unfold bO.rp bO.be;grind
theorem bO.aff(k:Int):Dr.rp PI (h+k) i=Dr.rp PI h i+Dr.be PI i*k:=by unfold bO.rp;grind
end
theorem Ou{c t1 t2 d1 d2:Int}(hc:c≠0)(h1:d1=c*(8388608*t1))(h2:d2=c*(8388608*t2))(hd:(d1<=0/\0<=d2)∨(d2<=0/\0<=d1)):opp t1 t2:=by
 rcases Int.lt_or_gt_of_ne hc with h|h
 .constructor
  .rintro⟨a,b⟩;have:=zk6 h (show(0:Int)<8388608*t1 by omega);have:=zk6 h (show(0:Int)<8388608*t2 by omega);omega
  .rintro⟨a,b⟩;have:=Sk h (show 8388608*t1<0 by omega);have:=Sk h (show 8388608*t2<0 by omega);omega
 .constructor
  .rintro⟨a,b⟩;have:=MX h (show(0:Int)<8388608*t1 by omega);have:=MX h (show(0:Int)<8388608*t2 by omega);omega
  .rintro⟨a,b⟩;have:=zk7 h (show 8388608*t1<0 by omega);have:=zk7 h (show 8388608*t2<0 by omega);omega
theorem zd4{c t d:Int}(hc:c≠0)(h1:d=c*(8388608*t)):t=0↔d=0:=by
 constructor
 .grind
 .intro h;rw[h]at h1;rcases zlr.1 h1.symm with h|h
  .grind
  omega
variable {P:Pt}
section
variable (Dr:bO n) {h:Int}
def bO.lo(i:Ix n):Int:=min (Dr.A i).h (Dr.B i).h
def bO.hi(i:Ix n):Int:=max (Dr.A i).h (Dr.B i).h
variable (fD:0<PI) (hd:∀ i,((Dr.B i).h-(Dr.A i).h)∣PI)
include fD hd
theorem bO.UF:Dr.c PI i≠0:=fun h=>by have:=Dr.c_eq (hd i);grind
theorem bO.kY(h:P=Dr.A i∨P=Dr.B i):Dr.rp PI P.h i=P.x*PI:=by
 rcases h with rfl|rfl
 .exact Dr.ahe i
 .exact Dr.ahd (hd i)
theorem bO.diff(h:P=Dr.A j∨P=Dr.B j):Dr.rp PI P.h i-Dr.rp PI P.h j=Dr.c PI i*(8388608*tw (Dr.A i) (Dr.B i) P):=by rw[Dr.kY fD hd h];exact Dr.ad4 (hd i) P
theorem bO.from'(k:Int):Dr.rp PI k i=Dr.rp PI h i+Dr.be PI i*(k-h):=by have:=Dr.aff (PI:=PI) (i:=i) (h:=h) (k-h);grind
theorem bO.col(hij:i≠j)(hb:Dr.be PI i=Dr.be PI j)(he:Dr.rp PI h i=Dr.rp PI h j)(h1:Dr.lo i<=h)(h2:h<=Dr.hi i)(h3:Dr.lo j<=h)(h4:h<=Dr.hi j) :
  max (Dr.lo i) (Dr.lo j)=min (Dr.hi i) (Dr.hi j)/\∃ P,(P=Dr.A i∨P=Dr.B i)/\(P=Dr.A j∨P=Dr.B j):=by
 have hall:∀ k,Dr.rp PI k i=Dr.rp PI k j:=fun k=>by rw[Dr.from' fD hd (h:=h) k,Dr.from' fD hd (i:=j) (h:=h) k,he,hb]
 have t1:tw (Dr.A i) (Dr.B i) (Dr.A j)=0:=(zd4 (Dr.UF fD hd) (Dr.diff fD hd (i:=i) (j:=j) (.inl rfl))).2 (by grind)
 have t2:tw (Dr.A i) (Dr.B i) (Dr.B j)=0:=(zd4 (Dr.UF fD hd) (Dr.diff fD hd (i:=i) (j:=j) (.inr rfl))).2 (by grind)
 have near:∀ p,p∈[Dr.A i,Dr.B i,Dr.A j,Dr.B j]->p.near/\Dr.rp PI p.h i=p.x*PI:=fun p hp=>by
  simp[eG,gm,gw]at hp;rcases hp with rfl|rfl|rfl|rfl
  .exact⟨Dr.qJ i,Dr.kY fD hd (.inl rfl)⟩
  .exact⟨Dr.qI i,Dr.kY fD hd (.inr rfl)⟩
  .exact⟨Dr.qJ j,by rw[hall];exact Dr.kY fD hd (.inl rfl)⟩
  .exact⟨Dr.qI j,by rw[hall];exact Dr.kY fD hd (.inr rfl)⟩
 have line:∀ p q,p∈[Dr.A i,Dr.B i,Dr.A j,Dr.B j]->q∈[Dr.A i,Dr.B i,Dr.A j,Dr.B j]->(p.x-q.x)*PI=Dr.be PI i*(p.h-q.h):=fun p q hp hq=>by have a:=(near p hp).2;have b:=(near q hq).2;have:=Dr.from' fD hd (i:=i) (h:=q.h) p.h;grind
 have eqs:∀ p q,p∈[Dr.A i,Dr.B i,Dr.A j,Dr.B j]->q∈[Dr.A i,Dr.B i,Dr.A j,Dr.B j]->dR p q=decide (p.h=q.h):=fun p q hp hq=>by
  by_cases hh:p.h=q.h
  .rw[w9.2 (Xi (near p hp).1 (near q hq).1 hh),decide_eq_true hh]
  .rw[decide_eq_false hh,←tZ,w9];grind
 obtain⟨s,hs,κ⟩:∃ s:Int,(s=1∨s=-1)/\∀ p q,p∈[Dr.A i,Dr.B i,Dr.A j,Dr.B j]->q∈[Dr.A i,Dr.B i,Dr.A j,Dr.B j]->jk p q=decide (s*p.h<s*q.h):=by
  have bf:∀ p q:Pt,jk p q=true↔(p.x<q.x∨(p.x=q.x/\p.y<q.y)):=fun p q=>by simp[jk]
  rcases Int.lt_trichotomy (Dr.be PI i) 0 with hb|hb|hb
  .refine⟨-1,.inr rfl,fun p q hp hq=>?_⟩;have e:=line p q hp hq;have e0:=Xi (near p hp).1 (near q hq).1;rw[Hh,bf,decide_eq_true_iff];by_cases hh:p.h=q.h
   .grind
   .by_cases au:p.h<q.h
    .have:=Sk hb (show p.h-q.h<0 by omega);exact xci
    .have:=zk6 hb (show 0<p.h-q.h by omega);exact xcj
  .refine⟨1,.inl rfl,fun p q hp hq=>?_⟩;have e:=line p q hp hq;rw[hb,Vp]at e;rw[Hh,bf,decide_eq_true_iff];have:p.x=q.x:=by rcases zlr.1 e with h|h<;>omega
   unfold Pt.h;omega
  .refine⟨1,.inl rfl,fun p q hp hq=>?_⟩;have e:=line p q hp hq;have e0:=Xi (near p hp).1 (near q hq).1;rw[Hh,bf,decide_eq_true_iff];by_cases hh:p.h=q.h
   .grind
   .by_cases au:p.h<q.h
    .have:=zk7 hb (show p.h-q.h<0 by omega);exact xcj
    .have:=MX hb (show 0<p.h-q.h by omega);exact xci
 have hsh:=zf4 (κ:=fun p=>s*p.h) κ (fun p q hp hq=>by grind)
 unfold bO.lo bO.hi at *
 have nz:dc (Dr.A i) (Dr.B i) (Dr.A j) (Dr.B j)≠0:=by grind
 let⟨hP,h1'⟩:=Dr.meet i j hij (.inl ⟨t1,t2,nz⟩)
 refine⟨?_,hP⟩
 have:=h1' t1 t2
 rw[hsh]at this
 rcases hs with rfl|rfl
 .grind
 .split at this
  .omega
  omega
theorem bO.WG(hij:i≠j)
  (oi:(Dr.rp PI (Dr.A i).h i-Dr.rp PI (Dr.A i).h j<=0/\0<=Dr.rp PI (Dr.B i).h i-Dr.rp PI (Dr.B i).h j)∨(Dr.rp PI (Dr.B i).h i-Dr.rp PI (Dr.B i).h j<=0/\0<=Dr.rp PI (Dr.A i).h i-Dr.rp PI (Dr.A i).h j))
  (oj:(Dr.rp PI (Dr.A j).h i-Dr.rp PI (Dr.A j).h j<=0/\0<=Dr.rp PI (Dr.B j).h i-Dr.rp PI (Dr.B j).h j)∨(Dr.rp PI (Dr.B j).h i-Dr.rp PI (Dr.B j).h j<=0/\0<=Dr.rp PI (Dr.A j).h i-Dr.rp PI (Dr.A j).h j))
  (hz:¬ (Dr.rp PI (Dr.A j).h i-Dr.rp PI (Dr.A j).h j=0/\Dr.rp PI (Dr.B j).h i-Dr.rp PI (Dr.B j).h j=0)):∃ P,(P=Dr.A i∨P=Dr.B i)/\(P=Dr.A j∨P=Dr.B j)/\Dr.rp PI P.h i=Dr.rp PI P.h j:=by
 have a1:=Dr.diff fD hd (i:=i) (j:=j) (.inl rfl)
 have a2:=Dr.diff fD hd (i:=i) (j:=j) (.inr rfl)
 have cn:=Dr.UF fD hd (i:=i)
 obtain⟨⟨P,h1,h2⟩,_⟩:=Dr.meet i j hij (.inr ⟨fun h=>hz ⟨(zd4 cn a1).1 h.1,(zd4 cn a2).1 h.2⟩,Ou cn a1 a2 oj,Ou (Dr.UF fD hd (i:=j)) (Dr.diff fD hd (i:=j) (j:=i) (.inl rfl)) (Dr.diff fD hd (i:=j) (j:=i) (.inr rfl)) Z⟩)
 exact⟨P,h1,h2,by rw[Dr.kY fD hd h1,Dr.kY fD hd h2]⟩
end
section
variable (Dr:bO n) 
def ZL{b u:Int}:(0<=b->0<=u->0<=b*u)/\(0<=b->u<=0->b*u<=0)/\(b<=0->0<=u->b*u<=0)/\(b<=0->u<=0->0<=b*u) :=
 ⟨fun h1 h2=>Ey h1 h2,fun h1 h2=>zki h1 h2,fun h1 h2=>zj1 h1 h2,fun h1 h2=>zmg h1 h2⟩
def bO.fW(fD:0<PI)(hd:∀ i,((Dr.B i).h-(Dr.A i).h)∣PI):ep n where
 lo:=Dr.lo
 hi:=Dr.hi
 rp h i:=Dr.rp PI h i
 lt i:=by have:=Dr.hne i;unfold bO.lo bO.hi;omega
 V i j h h1 h2:=by
  have key:∀ i,Dr.lo i=h∨Dr.hi i=h->∃ P,(P=Dr.A i∨P=Dr.B i)/\P.h=h:=fun i hi=>by unfold bO.lo bO.hi at hi;grind
  let⟨P,p1,p2⟩:=key i h1;let⟨Q,q1,q2⟩:=key j h2;have e:P=Q:=Xi (by rcases p1 with rfl|rfl;exact Dr.qJ i;exact Dr.qI i) (by rcases q1 with rfl|rfl;exact Dr.qJ j;exact Dr.qI j) Z;have e1:=Dr.kY fD hd p1;have e2:=Dr.kY fD hd q1;grind
 xgr i j h hij h1 h2 h3 h4 he:=by
  have hP:∃ P,(P=Dr.A i∨P=Dr.B i)/\(P=Dr.A j∨P=Dr.B j)/\P.h=h:=by
   by_cases hb:Dr.be PI i=Dr.be PI j
   .let⟨c1,P,p1,p2⟩:=Dr.col fD hd hij hb he h1 h2 h3 h4;refine⟨P,p1,p2,?_⟩;have a:Dr.lo i<=P.h/\P.h<=Dr.hi i:=by unfold bO.lo bO.hi;grind
    have b:Dr.lo j<=P.h/\P.h<=Dr.hi j:=by unfold bO.lo bO.hi;grind
    omega
   .have df:∀ k,Dr.rp PI k i-Dr.rp PI k j=(Dr.be PI i-Dr.be PI j)*(k-h):=fun k=>by rw[Dr.from' fD hd (h:=h) k,Dr.from' fD hd (i:=j) (h:=h) k,he,Int.sub_mul];omega
    have hb0:Dr.be PI i-Dr.be PI j≠0:=Z;have ni:=Dr.hne i;have nj:=Dr.hne j;have z:∀ k,Dr.rp PI k i-Dr.rp PI k j=0->k=h:=fun k hk=>by
     rw[df]at hk;rcases zlr.1 hk with h|h
     .omega
     omega
    have o:∀ u v,(u<=h/\h<=v)∨(v<=h/\h<=u)->(Dr.rp PI u i-Dr.rp PI u j<=0/\0<=Dr.rp PI v i-Dr.rp PI v j)∨(Dr.rp PI v i-Dr.rp PI v j<=0/\0<=Dr.rp PI u i-Dr.rp PI u j):=fun u v huv=>by
     rw[df u,df v];obtain⟨a1,a2,a3,a4⟩:=ZL (b:=Dr.be PI i-Dr.be PI j) (u:=u-h);obtain⟨b1,b2,b3,b4⟩:=ZL (b:=Dr.be PI i-Dr.be PI j) (u:=v-h);rcases znz 0 (Dr.be PI i-Dr.be PI j)with hs|hs<;>rcases huv with⟨g1,g2⟩|⟨g1,g2⟩
     .omega
     .omega
     .omega
     omega
    unfold bO.lo at h1 h3;unfold bO.hi at h2 h4;obtain ⟨P,p1,p2,p3⟩:=Dr.WG fD hd hij (o _ _ Z) (o _ _ Z) (fun hh=>by
     grind)
    grind
  unfold bO.lo bO.hi at *;grind
 C i j h h1 h2 h3 h4:=by
  rintro⟨c1,c2⟩;have e1:=Dr.aff (PI:=PI) (i:=i) (h:=h) 1;have e2:=Dr.aff (PI:=PI) (i:=j) (h:=h) 1;have df:∀ k,Dr.rp PI k i-Dr.rp PI k j=(Dr.rp PI h i-Dr.rp PI h j)+(Dr.be PI i-Dr.be PI j)*(k-h):=fun k=>by rw[Dr.from' fD hd (h:=h) k,Dr.from' fD hd (i:=j) (h:=h) k,Int.sub_mul];omega
  have dn:∀ k,k<=h->Dr.rp PI k i-Dr.rp PI k j<0:=fun k hk=>by rw[df];have:=(ZL (b:=Dr.be PI i-Dr.be PI j) (u:=k-h)).2.1 Z Z;omega
  have up:∀ k,h+1<=k->0<Dr.rp PI k i-Dr.rp PI k j:=fun k hk=>by have e3:=df (h+1);rw[df];have:=Int.mul_le_mul_of_nonneg_left (show 1<=k-h by omega) (zmn (show 0<Dr.be PI i-Dr.be PI j by omega));omega
  unfold bO.lo at h1 h3;unfold bO.hi at h2 h4;have o:∀ u v,(u<=h/\h+1<=v)∨(v<=h/\h+1<=u)->(Dr.rp PI u i-Dr.rp PI u j<=0/\0<=Dr.rp PI v i-Dr.rp PI v j)∨(Dr.rp PI v i-Dr.rp PI v j<=0/\0<=Dr.rp PI u i-Dr.rp PI u j):=fun u v huv=>by grind
  have nz:∀ k,k<=h∨h+1<=k->Dr.rp PI k i-Dr.rp PI k j≠0:=fun k hk=>by grind
  let⟨P,p1,p2,p3⟩:=Dr.WG fD hd (fun e=>by grind) (o _ _ Z) (o _ _ Z) (fun hh=>nz _ Z hh.1);grind
 W i j h hij h1 h2 h3 h4:=by rintro⟨c1,c2⟩;have e1:=Dr.aff (PI:=PI) (i:=i) (h:=h) 1;have e2:=Dr.aff (PI:=PI) (i:=j) (h:=h) 1;have:=(Dr.col fD hd hij Z c1 h1 Z h3 Z).1;omega
end
variable {x:Dt (Ix n)}
section
variable (Dr:bO n) 
def bO.lB(x:Dt (Ix n)):Pt:=if x.up=decide ((Dr.A x.s).h<(Dr.B x.s).h)then Dr.A x.s else Dr.B x.s
def bO.to(x:Dt (Ix n)):Pt:=if x.up=decide ((Dr.A x.s).h<(Dr.B x.s).h)then Dr.B x.s else Dr.A x.s
theorem bO.sI(x:Dt (Ix n)):(Dr.lB x=Dr.A x.s/\Dr.to x=Dr.B x.s)∨(Dr.lB x=Dr.B x.s/\Dr.to x=Dr.A x.s):=by unfold bO.lB bO.to;grind
theorem bO.Br(x:Dt (Ix n)):(x.up=true->(Dr.lB x).h=Dr.lo x.s/\(Dr.to x).h=Dr.hi x.s)/\(x.up=false->(Dr.lB x).h=Dr.hi x.s/\(Dr.to x).h=Dr.lo x.s):=by unfold bO.lB bO.to bO.lo bO.hi;grind
theorem bO.pT(x:Dt (Ix n)):(Dr.lB x).near/\(Dr.to x).near:=by
 rcases Dr.sI x with⟨h1,h2⟩|⟨h1,h2⟩<;>rw[h1,h2]
 .exact⟨Dr.qJ _,Dr.qI _⟩
 .exact⟨Dr.qI _,Dr.qJ _⟩
variable (fD:0<PI) (hd:∀ i,((Dr.B i).h-(Dr.A i).h)∣PI)
include fD hd
theorem bO.VF(x:Dt (Ix n)):Dr.be PI x.s*((Dr.to x).h-(Dr.lB x).h)=((Dr.to x).x-(Dr.lB x).x)*PI:=by have e:=Dr.from' fD hd (i:=x.s) (h:=(Dr.lB x).h) (Dr.to x).h;rw[Dr.kY fD hd ((Dr.sI x).imp (fun h=>h.1) (fun h=>h.1)),Dr.kY fD hd ((Dr.sI x).symm.imp (fun h=>h.2) (fun h=>h.2))]at e;grind
theorem bO.Nf{y:Dt (Ix n)}(ho:Dr.lB x=Dr.lB y)(hu:x.up=y.up)(hb:Dr.be PI y.s<Dr.be PI x.s):0<tw (Dr.lB x) (Dr.to x) (Dr.to y):=by
 have sy:=Dr.VF fD hd y;rw[←ho]at sy;have hx:=Dr.Br x;have hy:=Dr.Br y;rw[←ho,←hu]at hy;have lx:=Dr.hne x.s;have ly:=Dr.hne y.s;have s1:0<((Dr.to x).h-(Dr.lB x).h)*((Dr.to y).h-(Dr.lB x).h):=by
  unfold bO.lo bO.hi at hx hy;cases h:x.up
  .exact Sk (by grind) (by grind)
  .exact MX (by grind) (by grind)
 have s2:=Int.mul_lt_mul_of_pos_right hb s1;have key:0<PI*(8388608*tw (Dr.lB x) (Dr.to x) (Dr.to y)):=by
  have e:PI*(8388608*tw (Dr.lB x) (Dr.to x) (Dr.to y))=Dr.be PI x.s*(((Dr.to x).h-(Dr.lB x).h)*((Dr.to y).h-(Dr.lB x).h))-Dr.be PI y.s*(((Dr.to x).h-(Dr.lB x).h)*((Dr.to y).h-(Dr.lB x).h)):=by
   rw [show Dr.be PI x.s*(((Dr.to x).h - (Dr.lB x).h)*((Dr.to y).h - (Dr.lB x).h))=(Dr.be PI x.s*((Dr.to x).h - (Dr.lB x).h))*((Dr.to y).h - (Dr.lB x).h) from (Int.mul_assoc ..).symm,(Dr.VF fD hd x),
    show Dr.be PI y.s*(((Dr.to x).h - (Dr.lB x).h)*((Dr.to y).h - (Dr.lB x).h))=(Dr.be PI y.s*((Dr.to y).h - (Dr.lB x).h))*((Dr.to x).h - (Dr.lB x).h) by grind,sy]
   unfold tw Pt.h;grind
  omega
 by_cases ht:0<tw (Dr.lB x) (Dr.to x) (Dr.to y)
 .omega
 .have:=zki (zmn fD) (show 8388608*tw (Dr.lB x) (Dr.to x) (Dr.to y)<=0 by omega);omega
end
def Bd(o p:Pt):Bool:=decide (p.y<o.y)||(p.y==o.y&&decide (p.x<o.x))
def lss(o p q:Pt):Bool:=bif Bd o p != Bd o q then Bd o q else decide (0<tw o p q)
theorem Ys{o p:Pt}:Bd o p=true↔p.y<o.y∨(p.y=o.y/\p.x<o.x):=by simp[Bd]
def EH(o p:Pt):Prop:=p.y=o.y/\o.x<p.x
def zf5{o p:Pt}(ho:o.near)(hp:p.near)(h:o.h<p.h):o.y<p.y∨(p.y=o.y/\p.x<o.x):=xfx
def Gk{o p:Pt}(ho:o.near)(hp:p.near)(h:p.h<o.h):p.y<o.y∨(p.y=o.y/\o.x<p.x):=xfx
theorem zf6{o p:Pt}(h1:Bd o p=false)(h2:Bd o q=true):lss o p q=true:=by simp[lss,h1,h2]
theorem zbq{o p:Pt}(h1:Bd o p=Bd o q)(h2:0<tw o p q):lss o p q=true:=by simp[lss,h1,h2]
theorem xx{o p:Pt}(h:¬ (p.y<o.y∨(p.y=o.y/\p.x<o.x))):Bd o p=false:=by rw[←tZ,Ys];omega
theorem X9{o p:Pt}(ho:o.near)(hp:p.near)(hq:q.near)(h1:o.h<p.h)(h2:o.h<q.h)(ht:0<tw o p q):lss o p q=true:=by
 have d2:=zf5 ho hq h2;have e:o.y<p.y:=by
  rcases(zf5 ho hp h1)with h|h
  .omega
  .unfold tw at ht;rw[h.1,zn0,Vp]at ht;have:=zj1 (show p.x-o.x<=0 by omega) (show 0<=q.y-o.y by omega);omega
 have l1:=xx (o:=o) (p:=p) Z;cases l2:Bd o q
 .exact zbq (by grind) ht
 .exact zf6 l1 l2
theorem aac{o p:Pt}(ho:o.near)(hp:p.near)(hq:q.near)(h1:p.h<o.h)(h2:q.h<o.h)(ht:0<tw o p q):¬ EH o p/\(¬ EH o q->lss o p q=true):=by
 have d1:=Gk ho hp h1;have d2:=Gk ho hq h2;have e:¬ EH o p:=fun h=>by unfold tw at ht;rw[h.1,zn0,Vp]at ht;have:=zki (show 0<=p.x-o.x by have:=h.2;omega) (show q.y-o.y<=0 by omega);omega
 refine⟨e,fun hq=>zbq ?_ ht⟩;unfold EH at *;rw[Ys.2 Z,Ys.2 Z]
theorem aab{o p:Pt}(ho:o.near)(hp:p.near)(hq:q.near)(h1:o.h<p.h)(h2:q.h<o.h)(he:¬ EH o q):lss o p q=true:=by
 have d2:=Gk ho hq h2;unfold EH at he;have l2:Bd o q=true:=Ys.2 Z;rcases(zf5 ho hp h1)with h|h
 .exact zf6 (xx Z) l2
 .refine zbq (by rw[l2,Ys.2 (.inr h)]) ?_;unfold tw;rw[h.1,zn0,Vp];have:=Sk (show p.x-o.x<0 by omega) (show q.y-o.y<0 by omega);omega
theorem ach{o p:Pt}(hp:EH o p)(hq:¬ EH o q)(hn:q≠o):lss o p q=true:=by
 unfold EH at *;have l1:=xx (o:=o) (p:=p) Z;cases l2:Bd o q
 .refine zbq (by grind) ?_;have h3:¬ (q.y<o.y∨(q.y=o.y/\q.x<o.x)):=fun h=>by rw[Ys.2 h]at l2;grind
  have h4:¬ (q.y=o.y/\q.x=o.x):=fun h=>hn (by cases q;simp_all);unfold tw;rw[hp.1,zn0,Vp];have:=MX (show 0<p.x-o.x by omega) (show 0<q.y-o.y by omega);omega
 .exact zf6 l1 l2
section
variable (Dr:bO n) 
variable (fD:0<PI) (hd:∀ i,((Dr.B i).h-(Dr.A i).h)∣PI)
theorem bO.KG:((Dr.fW fD hd).fU.ring m).Pairwise fun x y=>(x.up=y.up/\Dr.be PI y.s<Dr.be PI x.s)∨(x.up=true/\y.up=false):=by
 unfold sV.ring;rw[zks,rE,rE,zlw];have ahx:∀ i,Dr.rp PI (m+1) i=Dr.rp PI m i+Dr.be PI i:=fun i=>by have:=Dr.aff (PI:=PI) (i:=i) (h:=m) 1;omega
 have ahw:∀ i,Dr.rp PI (m-1) i=Dr.rp PI m i-Dr.be PI i:=fun i=>by have:=Dr.aff (PI:=PI) (i:=i) (h:=m) (-1);grind
 refine⟨?_,?_,fun a ha b hb=>?_⟩
 .refine((Dr.fW fD hd).l8.filter (fun a=>decide ((Dr.fW fD hd).up m a=1))).imp_of_mem fun{i j} hi hj hk=>.inl ⟨rfl,?_⟩;have v:Dr.rp PI m i=Dr.rp PI m j:=(Dr.fW fD hd).V i j m (.inl (((Dr.fW fD hd).fU.rL m i).1 hi)) (.inl (((Dr.fW fD hd).fU.rL m j).1 hj));have hk:Dr.rp PI m i+Dr.rp PI (m+1) i<Dr.rp PI m j+Dr.rp PI (m+1) j:=hk;grind
 .refine((Dr.fW fD hd).l8.filter (fun a=>decide ((Dr.fW fD hd).dn m a=1))).imp_of_mem fun{i j} hi hj hk=>.inl ⟨rfl,?_⟩;have v:Dr.rp PI m i=Dr.rp PI m j:=(Dr.fW fD hd).V i j m (.inr (((Dr.fW fD hd).fU.ends m i).1 hi)) (.inr (((Dr.fW fD hd).fU.ends m j).1 hj));have hk:Dr.rp PI (m-1) i+Dr.rp PI (m-1+1) i<Dr.rp PI (m-1) j+Dr.rp PI (m-1+1) j:=hk;grind
 grind
theorem bO.BU(hx:x∈(Dr.fW fD hd).fU.ring m):(Dr.lB x).h=m:=by
 have hu:=Dr.Br x;rcases qY.1 hx with h|h
 .obtain⟨i,hi,rfl⟩:=kO.1 h;rw[Si]at hi;exact(hu.1 rfl).1.trans (((Dr.fW fD hd).fU.rL m i).1 hi)
 .obtain⟨i,hi,rfl⟩:=kO.1 h;exact(hu.2 rfl).1.trans (((Dr.fW fD hd).fU.ends m i).1 hi)
theorem bO.rX:x∈(Dr.fW fD hd).fU.ring m↔(Dr.lB x).h=m:=by
 refine⟨Dr.BU fD hd,fun h=>?_⟩;have hu:=Dr.Br x;let⟨i,b⟩:=x;cases b
 .exact zlt _ (kO.2 ⟨i,((Dr.fW fD hd).fU.ends m i).2 ((hu.2 rfl).1.symm.trans h),rfl⟩)
 .exact zmy _ (kO.2 ⟨i,by rw[Si];exact((Dr.fW fD hd).fU.rL m i).2 ((hu.1 rfl).1.symm.trans h),rfl⟩)
theorem bO.KH{o:Pt}(ho:o.near)(hm:o.h=m):∃ R1 R2,(Dr.fW fD hd).fU.ring m=R1++R2/\(R2++R1).Pairwise fun x y=>lss o (Dr.to x) (Dr.to y)=true:=by
 have hp:=Dr.KG fD hd (m:=m);have lB:∀ x,x∈(Dr.fW fD hd).fU.ring m->Dr.lB x=o:=fun x hx=>Xi (Dr.pT x).1 ho (by rw[Dr.BU fD hd hx,hm]);have hgt:∀ x,x∈(Dr.fW fD hd).fU.ring m->(x.up=true->o.h<(Dr.to x).h)/\(x.up=false->(Dr.to x).h<o.h):=fun x hx=>by have:=Dr.Br x;rw[lB x hx]at this;have hn:=Dr.hne x.s;unfold bO.lo bO.hi at this;grind
 have pair:∀ x y,x∈(Dr.fW fD hd).fU.ring m->y∈(Dr.fW fD hd).fU.ring m->(x.up=y.up/\Dr.be PI y.s<Dr.be PI x.s)∨(x.up=true/\y.up=false)->¬ EH o (Dr.to x)/\(¬ EH o (Dr.to y)->lss o (Dr.to x) (Dr.to y)=true):=fun x y hx hy hxy=>by
  have gx:=hgt x hx;have gy:=hgt y hy;have nx:=(Dr.pT x).2;have ny:=(Dr.pT y).2;rcases hxy with⟨h1,h2⟩|⟨h1,h2⟩
  .have ht:=Dr.Nf fD hd ((lB x hx).trans (lB y hy).symm) h1 h2;rw[lB x hx]at ht;cases hu:x.up
   .exact aac ho nx ny (gx.2 hu) (gy.2 (h1▸hu)) ht
   .refine⟨fun he=>?_,fun _=>X9 ho nx ny (gx.1 hu) (gy.1 (h1▸hu)) ht⟩;have:=zf5 ho nx (gx.1 hu);unfold EH at he;omega
  .refine⟨fun he=>?_,aab ho nx ny (gx.1 h1) (gy.2 h2)⟩;have:=zf5 ho nx (gx.1 h1);unfold EH at he;omega
 generalize hr:(Dr.fW fD hd).fU.ring m=R at hp lB hgt pair;have core:∀ L:List (Dt (Ix n)),(∀ x∈L,x∈R/\¬ EH o (Dr.to x))->(L.Pairwise fun x y=>(x.up=y.up/\Dr.be PI y.s<Dr.be PI x.s)∨(x.up=true/\y.up=false))->L.Pairwise fun x y=>lss o (Dr.to x) (Dr.to y)=true:=fun L hL h=>h.imp_of_mem fun{a b} ha hb aq=>(pair a b (hL a ha).1 (hL b hb).1 aq).2 (hL b hb).2;rcases zmq R with rfl|⟨R1,e,rfl⟩
 .exact⟨[],[],rfl,.nil⟩
 .rw[List.concat_eq_append]at *;rw[zks]at hp;have aem:∀ x∈R1,¬ EH o (Dr.to x):=fun x hx=>(pair x e (by grind) M (hp.2.2 x hx e M)).1;by_cases he:EH o (Dr.to e)
  .refine⟨R1,[e],rfl,?_⟩;rw[zks];refine⟨List.pairwise_singleton ..,core R1 (fun x hx=>⟨by grind,aem x hx⟩) hp.1,fun a ha b hb=>?_⟩;rw[MG]at ha;subst ha;refine ach he (aem b hb) fun hh=>?_;grind
  .refine⟨R1++[e],[],M,?_⟩;grind
end
def Vm(l:List H)(x y:H):Prop:=(∃ A B,l=A++x::y::B)∨∃ B,l=y::B/\l.getLast?=some x
theorem Vm.mem{x y:H}(h:Vm l x y):x∈l/\y∈l:=by
 rcases h with⟨A,B,rfl⟩|⟨B,rfl,h⟩
 .simp
 grind
structure Net where
 E:List (Int×Nat)
 len:Int->Nat
 pt:Int->Nat->Pt
 nodup:E.Nodup
 mem:∀ a k,(a,k)∈E->0<a/\k<len a
 whole:∀ a k j,(a,k)∈E->j<len a->(a,j)∈E
 near:∀ a k j,(a,k)∈E->j<=len a->(pt a j).near
 ne:∀ a k,(a,k)∈E->pt a k≠pt a (k+1)
 meet:∀ a k b j,(a,k)∈E->(b,j)∈E->(a,k)≠(b,j)->nw (pt a k) (pt a (k+1)) (pt b j) (pt b (j+1)) ->
  (∃ P,(P=pt a k∨P=pt a (k+1))/\(P=pt b j∨P=pt b (j+1)))/\(tw (pt a k) (pt a (k+1)) (pt b j)=0->tw (pt a k) (pt a (k+1)) (pt b (j+1))=0->dc (pt a k) (pt a (k+1)) (pt b j) (pt b (j+1))=1)
 via:∀ a k b j,(a,0)∈E->(b,0)∈E->0<k->k<len a->j<=len b->pt b j=pt a k->b=a/\j=k
variable {a:Int}{k:Nat}
section
variable (N:Net)
def Net.get_mem(i:Ix N.E.length):(N.E[i].1,N.E[i].2)∈N.E:=gQ _
def Net.drawn:bO N.E.length where
 A i:=N.pt N.E[i].1 N.E[i].2
 B i:=N.pt N.E[i].1 (N.E[i].2+1)
 qJ i:=N.near _ _ _ (N.get_mem i) (Nat.le_of_lt (N.mem _ _ (N.get_mem i)).2)
 qI i:=N.near _ _ _ (N.get_mem i) (N.mem _ _ (N.get_mem i)).2
 ne i:=N.ne _ _ (N.get_mem i)
 meet i j hij:=N.meet _ _ _ _ (N.get_mem i) (N.get_mem j) fun h=>hij (by
  have h2:N.E[i]=N.E[j]:=by grind
  exact Fin.ext ((zl6 N.nodup).1 h2))
def Net.fwd(x:Dt (Ix N.E.length)):Bool:=x.up==decide ((N.drawn.A x.s).h<(N.drawn.B x.s).h)
def Net.dJ(x:Dt (Ix N.E.length)):Int:=if N.fwd x then N.E[x.s].1 else-N.E[x.s].1
theorem Net.I9{x:Dt (Ix N.E.length)}(h:N.fwd x=true):N.drawn.lB x=N.pt N.E[x.s].1 N.E[x.s].2/\N.drawn.to x=N.pt N.E[x.s].1 (N.E[x.s].2+1):=by have h:=eq_of_beq h;unfold bO.lB bO.to;rw[bU h,bU h];exact⟨rfl,rfl⟩
theorem Net.Ja{x:Dt (Ix N.E.length)}(h:N.fwd x=false):N.drawn.lB x=N.pt N.E[x.s].1 (N.E[x.s].2+1)/\N.drawn.to x=N.pt N.E[x.s].1 N.E[x.s].2:=by
 unfold Net.fwd at h;have h:¬ x.up=decide ((N.drawn.A x.s).h<(N.drawn.B x.s).h):=by grind
 unfold bO.lB bO.to;rw[b9 h,b9 h];exact⟨rfl,rfl⟩
theorem Net.ex(h:(a,k)∈N.E)(b:Bool):∃ x:Dt (Ix N.E.length),N.E[x.s]=(a,k)/\N.fwd x=b:=by let⟨i,hi,he⟩:=List.getElem_of_mem h;refine⟨⟨⟨i,hi⟩,b==decide ((N.drawn.A ⟨i,hi⟩).h<(N.drawn.B ⟨i,hi⟩).h)⟩,he,?_⟩;unfold Net.fwd;simp
def Net.sp(d:Int):Pt:=if 0<d then N.pt d 0 else N.pt (-d) (N.len (-d))
def Net.sc(d:Int):Pt:=if 0<d then N.pt d 1 else N.pt (-d) (N.len (-d)-1)
def Net.gY(d:Int):Prop:=(d,0)∈N.E∨(-d,0)∈N.E
theorem Net.first(h:(a,k)∈N.E):(a,0)∈N.E:=N.whole a k 0 h (by have:=(N.mem a k h).2;omega)
theorem zab{o p:Pt}(h1:lss o p q=true)(h2:lss o q p=true):False:=by
 unfold lss at h1 h2;cases ha:Bd o p<;>cases hb:Bd o q<;>rw[ha,hb]at h1<;>rw[ha,hb]at h2<;>simp at h1 h2;all_goals
  have:tw o q p=- tw o p q:=xbv
  omega
variable (fD:0<PI) (hd:∀ i,((N.drawn.B i).h-(N.drawn.A i).h)∣PI)
end
section
open Go Go.RowKit
theorem zS{p:Pt}(h:p.near):bg p=true:=by let⟨h1,h2,h3,h4⟩:=h;unfold bg;grind
theorem Xn{p:Pt}(h:bg p=true):p.near:=by unfold bg at h;simp only[ET,Ez,W9]at h;exact⟨Z,Z,Z,Z⟩
def qd(a b:Int):Int:=bif decide (0<a)&&decide (0<=b)then 0 else bif decide (a<=0)&&decide (0<b)then 1 else bif decide (a<0)then 2 else 3
theorem Cb{o p:Pt}(ho:o.near)(hp:p.near):kR o p=qd (p.x-o.x) (p.y-o.y):=by let⟨h1,h2,h3,h4⟩:=ho;let⟨g1,g2,g3,g4⟩:=hp;have e1:aT .i64 (p.x-o.x)=p.x-o.x:=zA rfl Z Z;have e2:aT .i64 (p.y-o.y)=p.y-o.y:=zA rfl Z Z;unfold kR qd;grind
theorem YS{a b k:Int}(h1:-k<=a)(h2:a<=k)(h3:-k<=b)(h4:b<=k):-(k*k)<=a*b/\a*b<=k*k:=by
 have e1:(k-a)*(k+b)=k*k+k*b-a*k-a*b:=by grind
 have e2:(k+a)*(k-b)=k*k-k*b+a*k-a*b:=by grind
 have e3:(k-a)*(k-b)=k*k-k*b-a*k+a*b:=by grind
 have e4:(k+a)*(k+b)=k*k+k*b+a*k+a*b:=by grind
 have p1:=Ey (show 0<=k-a by omega) (show 0<=k+b by omega);have p2:=Ey (show 0<=k+a by omega) (show 0<=k-b by omega);have p3:=Ey (show 0<=k-a by omega) (show 0<=k-b by omega);have p4:=Ey (show 0<=k+a by omega) (show 0<=k+b by omega);omega
variable {q:Pt}
theorem ado{o p:Pt}(ho:o.near)(hp:p.near)(hq:q.near):nR o p o q=tw o p q:=by let⟨h1,h2,h3,h4⟩:=ho;let⟨g1,g2,g3,g4⟩:=hp;let⟨f1,f2,f3,f4⟩:=hq;unfold nR tw;rw[(zA rfl Z Z:aT .i64 (p.x-o.x)=p.x-o.x),(zA rfl Z Z:aT .i64 (p.y-o.y)=p.y-o.y),(zA rfl Z Z:aT .i64 (q.x-o.x)=q.x-o.x),(zA rfl Z Z:aT .i64 (q.y-o.y)=q.y-o.y)];obtain⟨m1,m2⟩:=YS (a:=p.x-o.x) (b:=q.y-o.y) (k:=4194304) Z Z Z Z;obtain⟨m3,m4⟩:=YS (a:=p.y-o.y) (b:=q.x-o.x) (k:=4194304) Z Z Z Z;generalize(p.x-o.x)*(q.y-o.y)=u at m1 m2 ⊢;generalize(p.y-o.y)*(q.x-o.x)=v at m3 m4 ⊢;rw[(zA rfl Z Z:aT .i64 u=u),(zA rfl Z Z:aT .i64 v=v)];exact zA rfl Z Z
def VY(a b:Int):Bool:=decide (b<0)||(decide (b=0)&&decide (a<0))
theorem zd5{a b:Int}:VY a b=true↔b<0∨(b=0/\a<0):=by simp[VY]
def OG{a b:Int}(h:¬ (b<0∨(b=0/\a<0))):VY a b=false:=Vw.2 fun e=>h (zd5.1 e)
theorem Cc{a b:Int}(h:a≠0∨b≠0):(qd a b=0/\VY a b=false/\0<a/\0<=b)∨(qd a b=1/\VY a b=false/\a<=0/\0<b)∨(qd a b=2/\VY a b=true/\a<0/\b<=0)∨(qd a b=3/\VY a b=true/\0<=a/\b<0):=by
 unfold qd;by_cases h1:0<a/\0<=b
 .left;rw[decide_eq_true h1.1,decide_eq_true h1.2];exact⟨rfl,OG Z,h1⟩
 .have e1:(decide (0<a)&&decide (0<=b))=false:=by grind
  rw[e1,bT];right;by_cases h2:a<=0/\0<b
  .left;rw[decide_eq_true h2.1,decide_eq_true h2.2];exact⟨rfl,OG Z,h2⟩
  .have e2:(decide (a<=0)&&decide (0<b))=false:=by grind
   rw[e2,bT];right;by_cases h3:a<0
   .left;rw[decide_eq_true h3];exact⟨rfl,zd5.2 Z,h3,Z⟩
   .right;rw[decide_eq_false h3];exact⟨rfl,zd5.2 Z,Z,Z⟩
theorem OJ{o p:Pt}(ho:o.near)(hp:p.near)(hq:q.near)(TW:p≠o)(hqo:q≠o):fK o p q=lss o p q:=by
 have hall:[o,p,q].all bg=true:=by rw[oO,oO,oO,zS ho,zS hp,zS hq];rfl
 unfold fK lss;rw[hall,(Vw.2 fun h=>TW (w9.1 h)),(Vw.2 fun h=>hqo (w9.1 h)),Cb ho hp,Cb ho hq,ado ho hp hq];have hp2:p.x-o.x≠0∨p.y-o.y≠0:=by refine znh fun h=>TW ?_;cases p;cases o;grind
 have lQ:q.x-o.x≠0∨q.y-o.y≠0:=by refine znh fun h=>hqo ?_;cases q;cases o;grind
 unfold tw;have lw:∀ r:Pt,Bd o r=VY (r.x-o.x) (r.y-o.y):=fun r=>by rw[Hh,Ys,zd5];omega
 rw[lw p,lw q];have pos:∀ x y z w:Int,0<x*y->z*w<=0->decide (0<x*y-z*w)=true:=fun x y z w h1 h2=>decide_eq_true Z;have neg:∀ x y z w:Int,x*y<=0->0<z*w->decide (0<x*y-z*w)=false:=fun x y z w h1 h2=>decide_eq_false Z;rcases Cc hp2 with⟨k1,l1,a1,a2⟩|⟨k1,l1,a1,a2⟩|⟨k1,l1,a1,a2⟩|⟨k1,l1,a1,a2⟩<;>rcases Cc lQ with⟨k2,l2,c1,c2⟩|⟨k2,l2,c1,c2⟩|⟨k2,l2,c1,c2⟩|⟨k2,l2,c1,c2⟩<;>rw[k1,k2,l1,l2]
 .simp
 .rw[pos _ _ _ _ (MX a1 c2) (ZL.2.1 a2 c1)];rfl
 .simp
 .simp
 .rw[neg _ _ _ _ (ZL.2.2.1 a1 c2) (MX a2 c1)];rfl
 .simp
 .simp
 .simp
 .simp
 .simp
 .simp
 .rw[pos _ _ _ _ (Sk a1 c2) (ZL.2.2.1 a2 c1)];rfl
 .simp
 .simp
 .rw[neg _ _ _ _ (ZL.2.1 a1 c2) (Sk a2 c1)];rfl
 rfl
variable {u v:Int}
theorem zcq{B:Int}(h1:-B<=u)(h2:u<=B)(h3:-B<=v)(h4:v<=B):-(B*B)<=u*v/\u*v<=B*B:=by have a1:=Ey (show 0<=B-u by omega) (show 0<=B+v by omega);have a2:=Ey (show 0<=B+u by omega) (show 0<=B-v by omega);have a3:=Ey (show 0<=B-u by omega) (show 0<=B-v by omega);have a4:=Ey (show 0<=B+u by omega) (show 0<=B+v by omega);grind
def ZC(x y:Int):x<y∨y<=x:=Z
variable {x:Int}
theorem zO(h1:-9223372036854775808<=x)(h2:x<9223372036854775808):aT .i64 x=x:=by rw[z6];exact IntWalk.i64_in _ (by grind)
theorem Yg{p:Pt}:bg p=true↔(-2097152<=p.x/\p.x<=2097152)/\(-2097152<=p.y/\p.y<=2097152):=by simp[bg,ET,Ez,W9,Int.not_lt];omega
def cr(a b c d:Pt):Int:=(b.x-a.x)*(d.y-c.y)-(b.y-a.y)*(d.x-c.x)
def dot(a b c d:Pt):Int:=(b.x-a.x)*(d.x-c.x)+(b.y-a.y)*(d.y-c.y)
variable {a b d:Pt}{y z:Int}
section
variable {c p:Pt}
theorem zH(ha:bg a=true)(hb:bg b=true)(hc:bg c=true)(hd:bg d=true):nR a b c d=cr a b c d:=by rw[Yg]at ha hb hc hd;unfold nR cr;rw[zO (x:=b.x-a.x) Z Z,zO (x:=d.y-c.y) Z Z,zO (x:=b.y-a.y) Z Z,zO (x:=d.x-c.x) Z Z];have h1:=zcq (B:=4194304) (u:=b.x-a.x) (v:=d.y-c.y) Z Z Z Z;have h2:=zcq (B:=4194304) (u:=b.y-a.y) (v:=d.x-c.x) Z Z Z Z;generalize(b.x-a.x)*(d.y-c.y)=s at *;generalize(b.y-a.y)*(d.x-c.x)=t at *;rw[zO (x:=s) Z Z,zO (x:=t) Z Z,zO Z Z]
theorem Yy(ha:bg a=true)(hb:bg b=true)(hc:bg c=true)(hd:bg d=true):-35184372088832<=cr a b c d/\cr a b c d<=35184372088832:=by rw[Yg]at ha hb hc hd;unfold cr;have h1:=zcq (B:=4194304) (u:=b.x-a.x) (v:=d.y-c.y) Z Z Z Z;have h2:=zcq (B:=4194304) (u:=b.y-a.y) (v:=d.x-c.x) Z Z Z Z;grind
theorem Jp(ha:bg a=true)(hb:bg b=true)(hc:bg c=true)(hd:bg d=true):LG a b c d=dot a b c d:=by rw[Yg]at ha hb hc hd;unfold LG dot;rw[zO (x:=b.x-a.x) Z Z,zO (x:=d.x-c.x) Z Z,zO (x:=b.y-a.y) Z Z,zO (x:=d.y-c.y) Z Z];have h1:=zcq (B:=4194304) (u:=b.x-a.x) (v:=d.x-c.x) Z Z Z Z;have h2:=zcq (B:=4194304) (u:=b.y-a.y) (v:=d.y-c.y) Z Z Z Z;generalize(b.x-a.x)*(d.x-c.x)=s at *;generalize(b.y-a.y)*(d.y-c.y)=t at *;rw[zO (x:=s) Z Z,zO (x:=t) Z Z,zO Z Z]
theorem Xm(ha:bg a=true)(hb:bg b=true)(hc:bg c=true):Kh a b c=cr a b a c:=by rw[←zH ha hb ha hc];rfl
theorem ZU:dR a b=true↔a=b:=by cases a;cases b;simp[dR]
theorem CI:qK u v<=z↔u<=z∨v<=z:=by unfold qK;omega
theorem CS:z<=rz u v↔z<=u∨z<=v:=by unfold rz;omega
theorem afm{u v z:Int}:(u<=z∨v<=z)/\(z<=u∨z<=v)↔(z-u)*(z-v)<=0:=by
 constructor
 .rintro⟨h1,h2⟩;rcases znz u z with h|h<;>rcases znz v z with g|g
  .rcases h2 with h2|h2
   .rw[show z-u=0 by omega,Vp];omega
   .rw[show z-v=0 by omega,zm9];omega
  .exact zki Z Z
  .exact zj1 Z Z
  .rcases h1 with h1|h1
   .rw[show z-u=0 by omega,Vp];omega
   .rw[show z-v=0 by omega,zm9];omega
 .intro h;constructor
  .rcases ZC z u with g|g
   .rcases ZC z v with k|k
    .have:=Sk (show z-u<0 by omega) (show z-v<0 by omega);omega
    omega
   omega
  .rcases ZC u z with g|g
   .rcases ZC v z with k|k
    .have:=MX (show 0<z-u by omega) (show 0<z-v by omega);omega
    omega
   omega
theorem xw(ha:bg a=true)(hb:bg b=true)(hp:bg p=true):mz a b p=qH a b p:=by
 unfold mz qH;rw[Xm ha hb hp,zH ha hb ha hp,Jp ha hp hb hp];rw[(show[a,b,p].all bg=true by grind),rF,rF];cases h0:cr a b a p==0
 .simp
 .rw[rF,rF,Hh];simp[kE,pM,CI,CS];have e:dot a p b p=(p.x-a.x)*(p.x-b.x)+(p.y-a.y)*(p.y-b.y):=rfl;have hx:=@afm a.x b.x p.x;have hy:=@afm a.y b.y p.y;unfold cr at h0;constructor
  .grind
  .intro h;generalize hX:p.x-a.x=X at *;generalize hX2:p.x-b.x=X2 at *;generalize hY:p.y-a.y=Y at *;generalize hY2:p.y-b.y=Y2 at *;have hc:X2*Y=Y2*X:=by grind
   have sq:(X*X2)*(Y*Y2)=(X2*Y)*(X2*Y):=by grind
   have hsq:0<=(X2*Y)*(X2*Y):=by
    rcases znz 0 (X2*Y)with h|h
    .exact Ey h h
    .exact zmg h h
   generalize X*X2=s at *;generalize Y*Y2=w at *;have hs:s<=0:=by
    rcases ZC 0 s with g|g
    .have:=zk7 g (show w<0 by omega);omega
    omega
   have hw:w<=0:=by
    rcases ZC 0 w with g|g
    .have:=zk6 (show s<0 by omega) g;omega
    omega
   grind
theorem zd6(ha:bg a=true)(hb:bg b=true)(hc:bg c=true):eO a b c=if 0<cr a b a c then 1 else if cr a b a c<0 then -1 else 0:=by unfold eO Xw;rw[(show[a,b,c].all bg=true by grind),bV,Xm ha hb hc];grind
def EF(x:Int):Int:=if 0<x then 1 else if x<0 then -1 else 0
theorem SO:aT .i64 (EF x*EF y)<=0↔(x<=0/\0<=y)∨(0<=x/\y<=0):=by
 have hb:-1<=EF x*EF y/\EF x*EF y<=1:=by unfold EF;grind
 rw[zO Z Z];unfold EF;grind
theorem K6(ha:bg a=true)(hb:bg b=true)(hc:bg c=true)(hd:bg d=true)(aq:dR a b=false)(hcd:dR c d=false):uQ a b c d=cM a b c d:=by
 unfold uQ cM rY;rw[(show[a,b,c,d].all bg=true by grind),bV,bV,aq,bT,hcd,bT,dZ,bT];simp only[zH ha hb hc hd,zH ha hb ha hc,zH ha hb ha hd,zH hc hd hc ha,zH hc hd hc hb,zH ha hc hc hd,zH ha hc ha hb];have e1:eO a b c=EF (cr a b a c):=zd6 ha hb hc;have e2:eO a b d=EF (cr a b a d):=zd6 ha hb hd;have e3:eO c d a=EF (cr c d c a):=zd6 hc hd ha;have e4:eO c d b=EF (cr c d c b):=zd6 hc hd hb;rw[e1,e2,e3,e4];have z1:=Yy ha hb hc hd;have z2:=Yy ha hb ha hc;have z3:=Yy hc hd hc ha;have hs0:∀ x:Int,(EF x==0)=(x==0):=fun x=>by unfold EF;grind
 have TZ:cr a b c d=0->cr a b a c=0->cr c d c a=0:=fun h1 h2=>by
  have hne:¬ (b.x-a.x=0/\b.y-a.y=0):=by
   intro h;have:a=b:=by cases a;cases b;grind
   rw[ZU.2 this]at aq;grind
  unfold cr at *;generalize b.x-a.x=e at *;generalize b.y-a.y=f at *;rcases zlr.1 (show e*((d.x-c.x)*(a.y-c.y)-(d.y-c.y)*(a.x-c.x))=0 by grind)with h|h
  .rcases zlr.1 (show f*((d.x-c.x)*(a.y-c.y)-(d.y-c.y)*(a.x-c.x))=0 by grind)with g|g
   .omega
   omega
  omega
 rw[hs0,hs0,(show cr a c c d=cr c d c a by unfold cr;grind),(show cr a c a b=- cr a b a c by unfold cr;grind),(show cr c d c b=cr c d c a-cr a b c d by unfold cr;grind),(show cr a b a d=cr a b a c+cr a b c d by unfold cr;grind)];generalize cr a b c d=n at *;generalize cr a b a c=u at *;generalize cr c d c a=s at *;have hsg:∀ x y:Int,decide (aT .i64 (EF x*EF y)<=0)=decide ((x<=0/\0<=y)∨(0<=x/\y<=0)):=fun x y=>decide_eq_decide.2 SO;rw[hsg,hsg];by_cases h0:n=0
 .grind
 .rw[show(n==0)=false by grind,bT];have q0:((u==0)&&(u+n==0))=false:=by grind
  rw[q0,bT];unfold tK;by_cases hn:n<0
  .rw[decide_eq_true hn,bV,zO (x:=0-n) Z Z,zO (x:=0-s) Z Z,zO (x:=0 - -u) Z Z];grind
  grind
end
section
variable {c:Pt}
theorem zd7{u v:Pt}(h:jk u v=true):jk v u=false:=by simp[jk,vX,kE,pM,Ev]at h;simp only[jk,Ez,zmr,W9,beq_eq_false_iff_ne];omega
theorem WS{u v:Pt}(h:jk u v=false)(h2:jk v u=false):u=v:=by cases u;cases v;simp only[jk,Ez,zmr,W9,beq_eq_false_iff_ne]at h h2;grind
theorem BC:dc a b c d=dc c d a b:=by
 unfold dc;have e1:(bif jk (jC a b).1 (jC c d).1 then(jC c d).1 else(jC a b).1)=(bif jk (jC c d).1 (jC a b).1 then(jC a b).1 else(jC c d).1):=by
  cases h:jk (jC a b).1 (jC c d).1<;>cases h2:jk (jC c d).1 (jC a b).1
  .exact WS h h2
  .rfl
  .rfl
  .rw[zd7 h]at h2;grind
 have e2:(bif jk (jC c d).2 (jC a b).2 then(jC c d).2 else(jC a b).2)=(bif jk (jC a b).2 (jC c d).2 then(jC a b).2 else(jC c d).2):=by
  cases h:jk (jC c d).2 (jC a b).2<;>cases h2:jk (jC a b).2 (jC c d).2
  .exact WS h2 h
  .rfl
  .rfl
  .rw[zd7 h]at h2;grind
 grind
theorem meet_comm(ha:bg a=true)(hb:bg b=true)(hc:bg c=true)(hd:bg d=true)(aq:dR a b=false)(hcd:dR c d=false):cM a b c d=cM c d a b:=by
 unfold cM rY;rw[(show[a,b,c,d].all bg=true by grind),(show[c,d,a,b].all bg=true by grind),bV,bV,aq,hcd,dZ,bT,dZ,bT];simp only[zH ha hb hc hd,zH ha hb ha hc,zH ha hb ha hd,zH hc hd hc ha,zH hc hd hc hb,zH ha hc hc hd,zH ha hc ha hb,zH hc hd ha hb,zH hc ha ha hb,zH hc ha hc hd];have z1:=Yy ha hb hc hd;have z2:=Yy ha hc ha hb;have z3:=Yy ha hc hc hd;rw[(show cr c d a b=- cr a b c d by unfold cr;grind),(show cr c a a b=- cr a c a b by unfold cr;grind),(show cr c a c d=- cr a c c d by unfold cr;grind),BC];generalize cr a b c d=n at *;generalize cr a c a b=t at *;generalize cr a c c d=s at *;have TY:((cr a b a c != 0)||((cr a b a d != 0)||((cr c d c a != 0)||(cr c d c b != 0))))=((cr c d c a != 0)||((cr c d c b != 0)||((cr a b a c != 0)||(cr a b a d != 0)))):=by grind
 rw[TY];have e0:(-n==0)=(n==0):=by grind
 rw[e0];cases hn0:n==0
 .have hn0:n≠0:=by grind
  rw[bT,bT];rw[zO Z Z,zO Z Z,zO Z Z,zO Z Z,zO Z Z,zO Z Z];unfold tK;grind
 rfl
theorem FH(ha:bg a=true)(hb:bg b=true)(hc:bg c=true)(hd:bg d=true)(aq:dR a b=false)(hcd:dR c d=false)(h:rz a.x b.x<qK c.x d.x):cM a b c d=0:=by
 have x1:a.x<=rz a.x b.x:=CS.2 (.inl (Vr _));have x2:b.x<=rz a.x b.x:=CS.2 (.inr (Vr _));have x3:qK c.x d.x<=c.x:=CI.2 (.inl (Vr _));have x4:qK c.x d.x<=d.x:=CI.2 (.inr (Vr _));generalize rz a.x b.x=xgu at *;generalize qK c.x d.x=m at *;have h1:[a,b,c,d].all bg=true:=by grind
 unfold cM rY;rw[h1,bV,aq,dZ,bT];simp only[zH ha hb hc hd,zH ha hb ha hc,zH ha hb ha hd,zH hc hd hc ha,zH hc hd hc hb,zH ha hc hc hd,zH ha hc ha hb];have z1:=Yy ha hb hc hd;have z2:=Yy ha hc ha hb;have z3:=Yy ha hc hc hd;have id:cr a b c d*a.x+cr a c c d*(b.x-a.x)=cr a b c d*c.x+cr a c a b*(d.x-c.x):=by unfold cr;grind
 cases hn0:cr a b c d==0
 .have hn0:cr a b c d≠0:=by grind
  rw[bT];generalize cr a b c d=n at *;generalize cr a c a b=t at *;generalize cr a c c d=s at *;have key:∀ n s t:Int,0<n->0<=s->s<=n->0<=t->t<=n->n*a.x+s*(b.x-a.x)=n*c.x+t*(d.x-c.x)->False:=fun n s t hn hs1 hs2 ht1 ht2 e=>by have p1:=Ey (show 0<=n-s by omega) (show 0<=xgu-a.x by omega);have p2:=Ey hs1 (show 0<=xgu-b.x by omega);have p3:=Ey (show 0<=n-t by omega) (show 0<=c.x-m by omega);have p4:=Ey ht1 (show 0<=d.x-m by omega);have p5:=MX hn (show 0<m-xgu by omega);grind
  unfold tK;rw[zO (x:=0-n) Z Z,zO (x:=0-t) Z Z,zO (x:=0-s) Z Z];by_cases hn:n<0
  .rw[decide_eq_true hn,bV];have:(decide (0<=0-s)&&(decide (0-s<=0-n)&&(decide (0<=0-t)&&decide (0-t<=0-n))))=false:=by rw[←tZ];simp only[kE,pM];rintro⟨g1,g2,g3,g4⟩;refine key (0-n) (0-s) (0-t) Z g1 g2 g3 g4 ?_;grind
   grind
  grind
 .have hsh:dc a b c d=0:=by
   unfold dc;have sx:∀ u v:Pt,u.x<=xgu->v.x<=xgu->(jC u v).1.x<=xgu/\(jC u v).2.x<=xgu:=fun u v h1 h2=>by unfold jC;grind
   have sy:∀ u v:Pt,m<=u.x->m<=v.x->m<=(jC u v).1.x/\m<=(jC u v).2.x:=fun u v h1 h2=>by
    unfold jC;cases jk v u
    .grind
    grind
   have s1:=sx a b x1 x2;have s2:=sy c d x3 x4;generalize jC a b=p at *;generalize jC c d=q at *;have e1:jk p.1 q.1=true:=xex
   have e2:jk q.2 p.2=false:=zd7 xex;have e3:dR q.1 p.2=false:=by simp only[dR,zmr,beq_eq_false_iff_ne];omega
   have e4:jk q.1 p.2=false:=zd7 xex;grind
  grind
end
theorem ZM{H:Type}{f:H->Int}:∀{l:List H}{x:H},(l.map f).Pairwise (·<·)->x∈l->l.find? (fun y=>f y==f x)=some x
 |y::l,x,h,hx=>by
  rw[mQ,vV]at h;rw[zm2];rcases eG.1 hx with rfl|hx
  .simp
  .have au:=h.1 (f x) (W7 hx);rw[show(f y==f x)=false by grind];exact ZM h.2 hx
variable {H:Type}{l:List H}
theorem ZN{f:H->Int}{x y:H}(h:(l.map f).Pairwise (·<·))(hx:x∈l)(hy:y∈l)(he:f x=f y):x=y:=by have h1:=ZM h hx;have h2:=ZM h hy;grind
structure lZ(p:Pn):Prop where
 VT:(p.ns.l.map Nd.id).Pairwise (·<·)
 Rq:(p.az.l.map Ac.id).Pairwise (·<·)
 OA:∀ x∈p.ns.l,bg x.at'=true
 vpt:∀ a∈p.az.l,∀ q∈a.via.l,bg q=true
 fr:∀ a∈p.az.l,(cT p a.fr).isSome=true
 Xx:∀ a∈p.az.l,(cT p a.to).isSome=true
theorem Zv{p:Pn}{id:Int}(h:(cT p id).isSome=true):cV p id∈p.ns.l/\(cV p id).id=id:=by
 let⟨x,hx⟩:=zld.1 h;have:cV p id=x:=by unfold cV;grind
 rw[this];have h2:=zn1 hx;exact⟨zkc hx,by grind⟩
theorem lZ.last{p:Pn}(h:lZ p){x:Nd}(hx:x∈p.ns.l):pW p.ns.l x.id=x.at':=by
 unfold pW;cases hf:p.ns.l.reverse.find? fun y=>x.id==y.id with
 |none =>
  have:=List.find?_eq_none.1 hf x (by grind)
  grind
 |some y =>
  have h2:=zn1 hf
  have:=ZN h.VT hx (show y∈p.ns.l by grind) (by grind)
  grind
theorem lZ.path{p:Pn}(h:lZ p){a:Ac}(ha:a∈p.az.l):cQ p a.id=true/\dW p a.id=bC p a:=by
 have h1:mX p a.id=some a:=ZM h.Rq ha;have h2:gM p a.id=a:=by unfold gM;grind
 constructor
 .unfold cQ;rw[h2,h1,h.fr a ha,h.Xx a ha];rfl
 .unfold dW bC;grind
def ey(p:Pn):List Sp:=p.az.l.flatMap fun a=>j9 a (bC p a)
theorem Yt{H I:Type}{f g:H->List I}:∀{l:List H},(∀ x∈l,f x=g x)->l.flatMap f=l.flatMap g
 |[],_=>rfl
 |x::l,h=>by rw[eT,eT,h x (qj ..),Yt fun y hy=>h y (tj _ hy)]
theorem lZ.sps{p:Pn}(h:lZ p):Nr p=ey p:=Yt fun a ha=>by rw[(h.path ha).2]
theorem HT(p:Pn):(lM p).map Rg.sp=ey p:=by unfold lM ey;rw[List.map_flatMap];refine Yt fun a _=>?_;unfold jR j9;rw[MV];rfl
theorem Yh{p:Pn}(h:lZ p){a:Ac}(ha:a∈p.az.l):∀ q∈bC p a,bg q=true:=fun q hq=>by
 rcases eG.1 hq with rfl|hq
 .exact h.OA _ (Zv (h.fr a ha)).1
 .rcases qY.1 hq with hq|hq
  .exact h.vpt a ha q hq
  .rw[MG]at hq;subst hq;exact h.OA _ (Zv (h.Xx a ha)).1
theorem yv{p:Pn}{a:Ac}:2<=(bC p a).length:=by simp[bC]
variable {t:Sp}
theorem Zh{p:Pn}(ht:t∈ey p):∃ a∈p.az.l,∃ k,k<(bC p a).length-1/\t=⟨a.id,a.fr,a.to,k,(bC p a).length-1,(bC p a).getD k fS,(bC p a).getD (k+1) fS⟩:=by let⟨a,ha,h⟩:=oQ.1 ht;obtain⟨k,hk,rfl⟩:=kO.1 h;grind
variable {k:Nat}
def YT{p:Pn}{a:Ac}(ha:a∈p.az.l)(hk:k<(bC p a).length-1):(⟨a.id,a.fr,a.to,k,(bC p a).length-1,(bC p a).getD k fS,(bC p a).getD (k+1) fS⟩:Sp)∈ey p :=
 oQ.2 ⟨a,ha,kO.2 ⟨k,vU.2 hk,rfl⟩⟩
theorem yb{l:List Pt}(hk:k<l.length):l.getD k fS∈l:=by grind
structure lI(s:Sp):Prop where
 a:bg s.A=true
 b:bg s.B=true
 ne:dR s.A s.B=false
def me(ns:List Nd)(s u:Sp):Bool:=bif s.id==u.id then(bif decide (u.k<s.k)then iH u s else iH s u)else gC ns s u
def Ry(ns:List Nd)(s u:Sp):Prop:=lI s->lI u->(s.id=u.id->s.k≠u.k)->me ns s u=true
variable {s:Sp}
def zd8{u:Sp}(h1:lI s)(h2:lI u):s.cM u=u.cM s:=meet_comm h1.a h1.b h2.a h2.b h1.ne h2.ne
theorem Ef{f g:H->Bool}:∀{l:List H},(∀ x∈l,f x=g x)->l.any f=l.any g
 |[],_=>rfl
 |x::l,h=>by grind
variable {ns:List Nd}
theorem CU{u:Sp}(h1:lI s)(h2:lI u):gC ns s u=gC ns u s:=by
 unfold gC;rw[zd8 h1 h2];have:ns.any (gI s u)=ns.any (gI u s):=Ef fun x _=>by unfold gI;grind
 grind
theorem BX{u:Sp}(h:Ry ns s u):Ry ns u s:=fun h1 h2 h3=>by
 have h4:=h h2 h1 fun he=>Se (h3 he.symm);unfold me at h4 ⊢;cases hid:s.id==u.id
 .rw[hid,bT]at h4;rw[show(u.id==s.id)=false by grind,bT,CU h1 h2];omega
 grind
theorem zf7(s u:Sg)(c:Int):jK c s u=bif (u.k:Int)==((s.k+1:Nat):Int)then c==1 else bif (s.k:Int)==0&&((u.k:Int)==((u.sp.n-1:Nat):Int)&&s.a.fr==s.a.to)then c==1 else c==0:=by
 unfold jK;have e2:u.path.l.length-2=u.sp.n-1:=by rfl
 grind
theorem LR{p:Pn}(hN:lZ p){L:List (Int×Pt)}(hL:∀ id,iU L id=pW p.ns.l id){s u:Sg}(h1:lI s.sp)(h2:lI u.sp)(hf:(cT p s.a.fr).isSome=true)(ht:(cT p s.a.to).isSome=true):mj L s u=me p.ns.l s.sp u.sp:=by
 have hm:s.meet u=s.sp.cM u.sp:=K6 h1.a h1.b h2.a h2.b h1.ne h2.ne;unfold mj me;rw[hm];show(bif s.a.id==u.a.id then _ else _)=bif s.a.id==u.a.id then _ else _
 cases hid:s.a.id==u.a.id
 .rw[bT,bT];unfold gC;cases h1c:s.sp.cM u.sp==1
  .rfl
  .rw[bV,bV];have R6:∀ x∈p.ns.l,dK L s u x.id=(DH u.sp x.id&&(qH s.sp.A s.sp.B x.at'&&qH u.sp.A u.sp.B x.at')):=fun x hx=>by
    unfold dK DH;rw[hL,hN.last hx,(fun x hx=>xw h1.a h1.b (hN.OA x hx):∀ x∈p.ns.l,mz s.p0 s.p1 x.at'=qH s.sp.A s.sp.B x.at') x hx,(fun x hx=>xw h2.a h2.b (hN.OA x hx):∀ x∈p.ns.l,mz u.p0 u.p1 x.at'=qH u.sp.A u.sp.B x.at') x hx];have e:∀ y:Int,(x.id==y)=(y==x.id):=fun y=>by grind
    rw[e,e];rfl
   rw[Hh];constructor
   .intro h;rcases vX _ _▸h with h|h
    .let⟨m1,m2⟩:=Zv hf;rw[←m2,R6 _ m1]at h;refine Bj.2 ⟨_,m1,?_⟩;unfold gI;rw[h,JY];show(s.a.fr==_||_)=true;grind
    .let⟨m1,m2⟩:=Zv ht;rw[←m2,R6 _ m1]at h;refine Bj.2 ⟨_,m1,?_⟩;unfold gI;rw[h,JY];show(_||s.a.to==_)=true;grind
   .intro h;let⟨x,hx,h⟩:=Bj.1 h;unfold gI at h;rw[kE]at h;have he:(s.a.fr==x.id||s.a.to==x.id)=true:=h.1;grind
 .rw[bV,bV];show(bif decide (u.k<s.k)then _ else _)=bif decide (u.k<s.k)then _ else _
  cases decide (u.k<s.k)
  .rw[bT,bT,zf7];rfl
  .rw[bV,bV,zf7];unfold iH;rw[zd8 h2 h1];rfl
theorem yL{R:H->H->Prop}:l.Pairwise R↔∀(i j:Nat)(x y:H),i<j->l[i]?=some x->l[j]?=some y->R x y:=by
 rw[List.pairwise_iff_getElem];constructor
 .grind
 .intro h i j h1 h2 hij;exact h i j _ _ hij (dw h1) (dw h2)
theorem Yi{l:List Rg}:jT ns l=true↔(∀ t∈l.map Rg.sp,eS ns t=true)/\(l.map Rg.sp).Pairwise fun s t=>kT ns s t=true:=by
 unfold jT;rw[ET,ES];constructor
 .intro h;have hz:∀(i:Nat)(t:Rg),l[i]?=some t->eS ns t.sp=true/\∀(k:Nat)(s:Rg),k<i->l[k]?=some s->kT ns s.sp t.sp=true:=fun i t hi=>by have h1:=h (t,i) (zlp.2 hi);simp only[tZ,Ez,zmh]at h1;refine⟨h1.1,fun k s hk hs=>?_⟩;have h2:=ES.1 h1.2 s (og (i:=k) (by grind));grind
  refine⟨fun t ht=>?_,?_⟩
  .obtain⟨s,hs,rfl⟩:=kO.1 ht;let⟨i,hi⟩:=rj hs;grind
  .rw[rE];exact yL.2 fun i j x y hij hx hy=>(hz j y hy).2 i x hij hx
 .rintro⟨h1,h2⟩⟨t,i⟩ hti;have hi:=zlp.1 hti;simp only[tZ,Ez,zmh];refine⟨h1 _ (W7 (og hi)),?_⟩;rw[ES];intro s hs;let⟨k,hk⟩:=rj hs;rw[zlj]at hk;split at hk
  .rw[rE]at h2;rw[yL.1 h2 k i s t ‹_› hk hi];simp
  grind
theorem zcr{p:Pn}(h:lZ p):(ey p).Pairwise fun s t=>s.id=t.id->s.k<t.k:=by
 unfold ey;rw[zlx];constructor
 .intro a _;unfold j9;rw[rE];refine List.pairwise_lt_range.imp ?_;grind
 .have h2:=h.Rq;rw[rE]at h2;refine h2.imp fun{a b} aq x hx y hy he=>?_;obtain⟨k,_,rfl⟩:=kO.1 hx;obtain⟨k',_,rfl⟩:=kO.1 hy;grind
theorem Yu(h:s.id=t.id->s.k<t.k):kT ns s t=me ns s t:=by unfold kT me;grind
theorem Pz{p:Pn}(h:lZ p)(hb:p.az.l.any (lp p)=false)(ht:t∈ey p):lI t/\(t.fr != t.to||decide ((3:Int)<=(t.n:Int)))=true:=by
 obtain⟨a,ha,k,hk,rfl⟩:=Zh ht;have hba:lp p a=false:=by grind
 unfold lp at hba;rw[(h.path ha).1,(h.path ha).2]at hba;simp only[ME,jg,Ez]at hba;let⟨kK,fE⟩:=hba;have hn:=Yh h ha;refine⟨⟨hn _ (yb Z),hn _ (yb Z),?_⟩,?_⟩
 .unfold qg at fE;grind
 grind
theorem QO{p:Pn}(h:lZ p)(hb:p.az.l.any (lp p)=true):∃ t∈ey p,eS p.ns.l t=false:=by
 let⟨a,ha,hba⟩:=Bj.1 hb;unfold lp at hba;rw[(h.path ha).1,(h.path ha).2]at hba;simp only[ME,jg,vX]at hba;rcases hba with kK|fE
 .have h2:=@yv p a;refine⟨_,YT ha (k:=0) Z,?_⟩;unfold eS;grind
 .let⟨k,hk,he⟩:=Bj.1 fE;refine⟨_,YT ha (vU.1 hk),?_⟩;unfold eS;grind
theorem Iz{p:Pn}(hN:lZ p)(h:lI t){x:Nd}(hx:x∈p.ns.l):iL t x=kM t x:=by unfold iL kM jx;rw[xw h.a h.b (hN.OA x hx),Bool.not_or,Bool.and_comm]
theorem vQ{p:Pn}(hN:lZ p)(h:lI t)(h2:(t.fr != t.to||decide ((3:Int)<=(t.n:Int)))=true):eS p.ns.l t=true↔∀ x∈p.ns.l,iL t x=false:=by
 unfold eS;rw[h.ne,h2,Hg,JY,JY,ET,ES];constructor
 .intro h3 x hx;rw[Iz hN h hx];grind
 .intro h3 x hx;rw[←Iz hN h hx,h3 x hx];simp
theorem G4{p:Pn}(hN:lZ p)(hs:s∈ey p)(ht:t∈ey p)(g1:lI s)(g2:lI t)(h:rz s.A.x s.B.x<qK t.A.x t.B.x):me p.ns.l s t=true:=by
 have hm:s.cM t=0:=FH g1.a g1.b g2.a g2.b g1.ne g2.ne h;have x1:s.A.x<=rz s.A.x s.B.x:=CS.2 (.inl (Vr _));have x2:s.B.x<=rz s.A.x s.B.x:=CS.2 (.inr (Vr _));have x3:qK t.A.x t.B.x<=t.A.x:=CI.2 (.inl (Vr _));have x4:qK t.A.x t.B.x<=t.B.x:=CI.2 (.inr (Vr _));unfold me;cases hid:s.id==t.id
 .unfold gC;grind
 .have he:s.id=t.id:=by grind
  have link:∀ s t:Sp,s∈ey p->t∈ey p->s.id=t.id->(t.k=s.k+1->s.B=t.A)/\(s.k=0->t.k=t.n-1->s.fr=s.to->t.B=s.A):=fun s t hs ht he=>by
   obtain⟨a,ha,k,hk,rfl⟩:=Zh hs;obtain⟨b,hb,k',hk',rfl⟩:=Zh ht;have aq:=ZN hN.Rq ha hb he;subst aq;refine⟨fun e=>?_,fun e1 e2 e3=>?_⟩
   .grind
   .dsimp only at e1 e2 e3 ⊢;rw[(show k'+1=(bC p a).length-1 by omega)];unfold bC;grind
  have hap:∀ s t:Sp,s∈ey p->t∈ey p->s.id=t.id->s.cM t=0->(s.B=t.A->False)->(t.B=s.A->False)->iH s t=true:=fun s t hs ht he hm n1 n2=>by let⟨l1,l2⟩:=link s t hs ht he;unfold iH;grind
  cases decide (t.k<s.k)
  .exact hap s t hs ht he hm (fun h=>by grind) fun h=>by grind
  .exact hap t s ht hs he.symm ((zd8 g2 g1).trans hm) (fun h=>by grind) fun h=>by grind
theorem QC:tT x y<0↔x<y:=by unfold tT;omega
theorem Cj{p:Pn}(hN:lZ p){v:Bool}(hv:jN p v):v=jT p.ns.l (lM p):=by
 have hQ:=HT p;unfold jN at hv;cases hb:p.az.l.any (lp p)
 .rw[hb,bT,hN.sps]at hv;have hg:=fun{t:Sp}(ht:t∈ey p)=>Pz hN hb ht;rcases hv with⟨h1,rfl⟩|⟨L,l,hL,iM,FZ,hres⟩
  .symm;rw[Yi,hQ,h1];simp
  .have hmem:∀{s:Sg},s∈l->s.sp∈ey p:=fun hs=>iM.mem_iff.1 (W7 hs);have Wp:∀{s:Sg},s∈l->(cT p s.a.fr).isSome=true/\(cT p s.a.to).isSome=true:=fun{s} hs=>by let⟨a,ha,k,hk,he⟩:=Zh (hmem hs);have e1:s.a.fr=a.fr:=dL Sp.fr he;have e2:s.a.to=a.to:=dL Sp.to he;rw[e1,e2];exact⟨hN.fr a ha,hN.Xx a ha⟩
   have hcp:∀{s u:Sg},s∈l->u∈l->mj L s u=me p.ns.l s.sp u.sp:=fun hs hu=>LR hN hL (hg (hmem hs)).1 (hg (hmem hu)).1 (Wp hs).1 (Wp hs).2;have C5:=zcr hN;have Pj:(l.map Sg.sp).Pairwise fun s t=>s.id=t.id->s.k≠t.k :=
    (iM.pairwise_iff (R:=fun s t:Sp=>s.id=t.id->s.k≠t.k) (fun{x y} h he=>Se (h he.symm))).2 (C5.imp fun h he=>by grind)
   have ac7:∀(i j:Nat)(s u:Sg),i<j->l[i]?=some s->l[j]?=some u->(s.sp.id=u.sp.id->s.sp.k≠u.sp.k):=fun i j s u hij hs hu=>by rw[rE]at Pj;exact yL.1 Pj i j s u hij hs hu
   have hrel:(l.map Sg.sp).Pairwise (Ry p.ns.l)↔(ey p).Pairwise (Ry p.ns.l):=iM.pairwise_iff fun{x y} h=>BX h;have hRL:(ey p).Pairwise (Ry p.ns.l)↔(ey p).Pairwise fun s t=>kT p.ns.l s t=true:=by
    constructor
    .intro h;refine yL.2 fun i j x y hij hx hy=>?_;have ho:=yL.1 C5 i j x y hij hx hy;rw[Yu ho];exact yL.1 h i j x y hij hx hy (hg (og hx)).1 (hg (og hy)).1 fun he=>by grind
    .intro h;refine yL.2 fun i j x y hij hx hy _ _ _=>?_;rw[←Yu (yL.1 C5 i j x y hij hx hy)];exact yL.1 h i j x y hij hx hy
   have hal:(∀ t∈ey p,eS p.ns.l t=true)↔∀ s∈l,∀ x∈p.ns.l,iL s.sp x=false:=by
    constructor
    .intro h s hs;have g:=hg (hmem hs);exact(vQ hN g.1 g.2).1 (h _ (hmem hs))
    .intro h t ht;have g:=hg ht;obtain⟨s,hs,rfl⟩:=kO.1 (iM.mem_iff.2 ht);exact(vQ hN g.1 g.2).2 (h s hs)
   cases RY:v
   .let⟨i,s,hs,tN⟩:=hres.2 RY;symm;rw[←tZ];intro hp;rw[Yi,hQ]at hp;rcases tN with⟨j,u,hij,hu,hc⟩|⟨x,hx,hxb⟩
    .have h1:=hrel.2 (hRL.2 hp.2);rw[rE]at h1;have h2:=yL.1 h1 i j s u hij hs hu (hg (hmem (og hs))).1 (hg (hmem (og hu))).1 (ac7 i j s u hij hs hu);grind
    grind
   .have hr:=hres.1 RY;symm;rw[Yi,hQ];refine⟨hal.2 fun s hs=>?_,hRL.1 (hrel.1 ?_)⟩
    .let⟨i,hi⟩:=rj hs;grind
    .rw[rE];refine yL.2 fun i j s u hij hs hu g1 g2 _=>?_;rcases(hr i s hs).1 j u hij hu with h1|⟨j',u',h2,h3,h4,h5⟩
     .grind
     .have hw:u'.w<=u.w:=by
       by_cases hjj:j'=j
       .grind
       .have:=FZ j' j u' u (RH _) Z (ew.1 hu).1 h4 hu;unfold up at this;rw[QC]at this;omega
      exact G4 hN (hmem (og hs)) (hmem (og hu)) g1 g2 (by
       have:s.ea<u.w:=Z;exact this)
 .rw[hb,bV]at hv;rw[hv];symm;rw[←tZ];intro hp;rw[Yi,hQ]at hp;let⟨t,ht,h2⟩:=QO hN hb;grind
theorem BT(p:Pn):Fl p=wS p:=by unfold Fl wS iE gD iI;grind
theorem Dc(p:Pn)(z:Int):ox (p.ns.l.map Nd.id) z=(cT p z).isSome:=by unfold ox cT;grind
theorem vE(p:Pn):kB p (p.ns.l.map Nd.id)=bif lF p.ns.l then 8 else bif p.az.l.any (fun a=>!jD p a)then 7 else bif p.az.l.any (fun a=>!fq p a.l||!fq p a.r)then 12 else 0:=by
 unfold kB;have e1:p.az.l.any (loose (p.ns.l.map Nd.id))=p.az.l.any (fun a=>!jD p a):=Ef fun a _=>by unfold loose jD;rw[Dc,Dc,Bool.not_and]
 have e2:∀ z,dM p.fs.l z=!fq p z:=fun z=>by unfold dM fq;grind
 grind
theorem Yv(h:gj q=false):bg q=true:=by rw[Yg];simp[gj,Ez,W9,Int.not_lt]at h;omega
def Sn{c:Pt}:tw a b c=cr a b a c:=xdz
def aax{c:Pt}:cr a b c d=tw a b d-tw a b c:=xdz
def ahc{c:Pt}:cr a c c d=tw c d a:=xdz
def ahb{c:Pt}:cr a c a b=- tw a b c:=xdz
def Hu{c:Pt}:tw c d b=tw c d a-cr a b c d:=xdz
theorem zdh(h:x*y=0)(hx:x≠0):y=0:=by
 rcases zlr.1 h with h|h
 .grind
 omega
theorem QA{c:Pt}(aq:a≠b)(h1:tw a b c=0)(h2:tw a b d=0):tw c d a=0:=by
 have e1:(b.x-a.x)*tw c d a=(c.x-a.x)*tw a b d-(d.x-a.x)*tw a b c:=xbv
 have e2:(b.y-a.y)*tw c d a=(c.y-a.y)*tw a b d-(d.y-a.y)*tw a b c:=xbv
 rw[h1,h2,zm9,zm9,zny]at e1 e2;by_cases hx:b.x-a.x=0
 .by_cases hy:b.y-a.y=0
  .cases a;cases b;grind
  .exact zdh e2 hy
 .exact zdh e1 hx
theorem IP{n s t:Int}(h1:0<=s)(h2:s<=n)(h3:0<=t)(h4:t<=n):tK n s t=1:=by unfold tK;grind
theorem Tw{c:Pt}(ha:bg a=true)(hb:bg b=true)(hc:bg c=true)(hd:bg d=true)(aq:a≠b):cM a b c d=bif cr a b c d==0 then(bif (tw a b c != 0)||((tw a b d != 0)||((cr c d c a != 0)||(cr c d c b != 0)))then 0 else dc a b c d)else bif decide (cr a b c d<0)then tK (0-cr a b c d) (0-tw c d a) (tw a b c)else tK (cr a b c d) (tw c d a) (0-tw a b c):=by unfold cM rY;rw[(show[a,b,c,d].all bg=true by grind),(Vw.2 fun h=>aq (ZU.1 h)),dZ,bV,bT];simp only[zH ha hb hc hd,zH ha hb ha hc,zH ha hb ha hd,zH hc hd hc ha,zH hc hd hc hb,zH ha hc hc hd,zH ha hc ha hb];have b1:=Yy ha hb hc hd;have b2:=Yy ha hc hc hd;have b3:=Yy ha hc ha hb;rw[zO Z Z,zO Z Z,zO Z Z,ahb (a:=a) (b:=b),ahc,←Sn,←Sn,show 0 - -tw a b c=tw a b c by omega,show -tw a b c=0-tw a b c by omega]
theorem zaw{c:Pt}(ha:bg a=true)(hb:bg b=true)(hc:bg c=true)(hd:bg d=true)(aq:a≠b)(h:nw a b c d):cM a b c d≠0/\(tw a b c=0->tw a b d=0->cM a b c d=dc a b c d):=by
 rw[Tw ha hb hc hd aq];have hD:=aax (a:=a) (b:=b) (c:=c) (d:=d);have col:tw a b c=0->tw a b d=0->(bif cr a b c d==0 then(bif (tw a b c != 0)||((tw a b d != 0)||((cr c d c a != 0)||(cr c d c b != 0)))then 0 else dc a b c d)else bif decide (cr a b c d<0)then tK (0-cr a b c d) (0-tw c d a) (tw a b c)else tK (cr a b c d) (tw c d a) (0-tw a b c))=dc a b c d:=fun h1 h2=>by have e1:=QA aq h1 h2;have e2:=Hu (a:=a) (b:=b) (c:=c) (d:=d);rw[h1,h2]at hD;rw[←Sn,←Sn,e1,(show tw c d b=0 by omega),h1,h2,hD];rfl
 refine⟨?_,col⟩;rcases h with⟨h1,h2,h3⟩|⟨h1,⟨h2,h3⟩,h4,h5⟩
 .grind
 .have e2:=Hu (a:=a) (b:=b) (c:=c) (d:=d);by_cases h0:cr a b c d=0
  .grind
  .rw[show(cr a b c d==0)=false from beq_eq_false_iff_ne.2 h0,bT];by_cases hn:cr a b c d<0
   .rw[decide_eq_true hn,bV,IP Z Z Z Z];simp
   .rw[decide_eq_false hn,bT,IP Z Z Z Z];simp
structure aX(p:Pn):Prop where
 nice:lZ p
 pid:∀ a∈p.az.l,1<=a.id/\a.id<=1073741824
 pts:lF p.ns.l=false
 fac:∀ a∈p.az.l,fq p a.l=true/\fq p a.r=true
 alone:∀ t∈ey p,eS p.ns.l t=true
 pair:(ey p).Pairwise fun s t=>kT p.ns.l s t=true
theorem Wz{p:Pn}(h:jq p=0):aX p:=by
 unfold jq at h;cases h1:(mK p||nG p);rotate_left
 .grind
 rw[h1,bT]at h;cases h2:qu p
 .grind
 rw[h2,ME,bT]at h;unfold KK at h;cases h3:Fl p
 .grind
 rw[h3,ME,bT]at h;cases h4:lF p.ns.l;rotate_left
 .grind
 rw[h4,bT]at h;unfold BY at h;cases h5:p.az.l.any (fun a=>!jD p a);rotate_left
 .grind
 rw[h5,bT]at h;cases h6:p.az.l.any (fun a=>!fq p a.l||!fq p a.r);rotate_left
 .grind
 rw[h6,bT]at h;cases h7:jT p.ns.l (lM p)
 .grind
 rw[BT]at h3;unfold qu at h2;simp[kE]at h2;unfold wS iE at h3;simp only[kE,ET]at h3;have hlo:∀ a∈p.az.l,(cT p a.fr).isSome=true/\(cT p a.to).isSome=true:=fun a ha=>by have:=ES.1 h5 a ha;simp only[tZ,zmh,jD,kE]at this;omega
 rw[Yi,HT]at h7;refine⟨⟨ZB.1 h2.1,ZB.1 h2.2.1,fun x hx=>Yv ?_,fun a ha q hq=>Yv ?_,fun a ha=>(hlo a ha).1,fun a ha=>(hlo a ha).2⟩,fun a ha=>?_,h4,fun a ha=>?_,h7.1,h7.2⟩
 .grind
 .have:=ES.1 h3.2.2.2.2 a ha;grind
 .have:=ES.1 h3.2.1 a.id (W7 ha);simp only[iO,vX,pM]at this;omega
 grind
section
variable {p:Pn} (h:aX p)
include h
theorem aX.good(ht:t∈ey p):lI t:=by obtain⟨a,ha,k,hk,rfl⟩:=Zh ht;have hal:=h.alone _ ht;unfold eS at hal;simp only[kE,ET]at hal;exact⟨Yh h.nice ha _ (yb Z),Yh h.nice ha _ (yb Z),hal.2.1⟩
theorem aX.acj(ht:t∈ey p)(he:t.fr=t.to):3<=t.n:=by have hal:=h.alone _ ht;unfold eS at hal;grind
theorem aX.jx(ht:t∈ey p){x:Nd}(hx:x∈p.ns.l)(ho:qH t.A t.B x.at'=true):jx t x=true:=by have hal:=h.alone _ ht;unfold eS at hal;simp only[kE,ET]at hal;have:=ES.1 hal.1 x hx;unfold kM at this;grind
theorem aX.rel(hs:s∈ey p)(ht:t∈ey p)(hne:s.id=t.id->s.k≠t.k):me p.ns.l s t=true:=by
 let⟨i,hi⟩:=rj hs;let⟨j,hj⟩:=rj ht;have C5:=yL.1 (zcr h.nice);have hp:=yL.1 h.pair;rcases zmo i j with hij|hij|hij
 .have:=hp i j s t hij hi hj;rwa [Yu (C5 i j s t hij hi hj)]at this
 .grind
 .have h1:=hp j i t s hij hj hi;rw[Yu (C5 j i t s hij hj hi)]at h1;exact BX (fun _ _ _=>h1) (h.good hs) (h.good ht) hne
theorem aX.sJ(ht:t∈ey p){x:Nd}(hx:x∈p.ns.l)(he:Go.Proofs.YtjibdelmjcenhaaGreatDoor.jx t x=true):(t.k=0/\t.fr=x.id/\t.A=x.at')∨(t.k+1=t.n/\t.to=x.id/\t.B=x.at'):=by
 obtain⟨a,ha,k,hk,rfl⟩:=Zh ht;unfold Go.Proofs.YtjibdelmjcenhaaGreatDoor.jx at he;simp only[vX,kE,Ev]at he;have ak:∀ id,(cT p id).isSome=true->id=x.id->cV p id=x:=fun id hi e=>by let⟨m1,m2⟩:=Zv hi;exact ZN h.nice.VT m1 hx Z
 rcases he with⟨h1,h2⟩|⟨h1,h2⟩
 .left;have hk0:k=0:=Z;subst hk0;refine⟨rfl,h2,?_⟩;show(cV p a.fr).at'=x.at';rw[ak _ (h.nice.fr a ha) h2]
 .right;have hkn:k+1=(bC p a).length-1:=by omega
  refine⟨hkn,h2,?_⟩;show(bC p a).getD (k+1) fS=x.at';rw[hkn];unfold bC;rw[EB,fB,mV,fB,gq,show a.via.l.length+(0+1)+1-1=a.via.l.length+1 by omega,rG,q8 (cI _),Ew];show(cV p a.to).at'=x.at';rw[ak _ (h.nice.Xx a ha) h2]
end
def jW(p:Pt):Int:=8388608*p.x+p.y
theorem aaf{p:Pt}(hp:bg p=true)(hq:bg q=true):jk p q=decide (jW p<jW q):=by rw[Yg]at hp hq;unfold jk jW;grind
theorem OO{p:Pt}(hp:bg p=true)(hq:bg q=true):dR p q=decide (jW p=jW q):=by rw[Yg]at hp hq;unfold dR jW;grind
theorem aae{p:Pt}(hp:bg p=true)(hq:bg q=true)(h:jW p=jW q):p=q:=by have:=OO hp hq;rw[decide_eq_true h]at this;exact ZU.1 this
variable {P:Pt}
section
variable {c:Pt} (ha:bg a=true) (hb:bg b=true) (hc:bg c=true) (hd:bg d=true)
include ha hb hc hd
theorem ND:dc a b c d=if max (min (jW a) (jW b)) (min (jW c) (jW d))=min (max (jW a) (jW b)) (max (jW c) (jW d))then 1 else if max (min (jW a) (jW b)) (min (jW c) (jW d))<min (max (jW a) (jW b)) (max (jW c) (jW d))then 2 else 0:=by
 have hn:∀ p,p∈[a,b,c,d]->bg p=true:=fun p hp=>by grind
 exact zf4 (fun p q hp hq=>aaf (hn p hp) (hn q hq)) (fun p q hp hq=>OO (hn p hp) (hn q hq))
theorem abq(h1:P=a∨P=b)(h2:P=c∨P=d):dc a b c d≠0:=by rw[ND ha hb hc hd];grind
theorem XD(aq:a≠b)(h:(a=c/\b=d)∨(a=d/\b=c)):dc a b c d=2:=by rw[ND ha hb hc hd];have hne:jW a≠jW b:=fun e=>aq (aae ha hb e);grind
theorem vp(h1:P=a∨P=b)(h2:P=c∨P=d):nw a b c d:=by
 by_cases TZ:tw a b c=0/\tw a b d=0
 .exact .inl ⟨TZ.1,TZ.2,abq ha hb hc hd h1 h2⟩
 .refine .inr ⟨TZ,?_,?_⟩
  .have:tw a b c=0∨tw a b d=0:=by
    have z1:tw a b a=0:=xbv
    have z2:tw a b b=0:=xbv
    exact xc1
   unfold opp;omega
  .have:tw c d a=0∨tw c d b=0:=by
    have z1:tw c d c=0:=xbv
    have z2:tw c d d=0:=xbv
    exact xc1
   unfold opp;omega
def Qf(aq:a≠b)(h1:P=a∨P=b)(h2:P=c∨P=d):cM a b c d≠0:=(zaw ha hb hc hd aq (vp ha hb hc hd h1 h2)).1
theorem Kf(aq:a≠b)(h:(a=c/\b=d)∨(a=d/\b=c)):cM a b c d=2:=by
 have z1:tw a b a=0:=xbv
 have z2:tw a b b=0:=xbv
 rw[(zaw ha hb hc hd aq (vp ha hb hc hd (.inl rfl) (by grind))).2 (by grind) (by grind)];exact XD ha hb hc hd aq h
end
section
variable {p:Pn} (h:aX p)
include h
theorem aX.meet(hs:s∈ey p)(ht:t∈ey p)(hne:s.id=t.id->s.k≠t.k)(hm:s.cM t≠0):s.cM t=1/\∃ P,(P=s.A∨P=s.B)/\(P=t.A∨P=t.B):=by
 have hr:=h.rel hs ht hne;unfold me at hr;have same:∀{u v:Sp},u∈ey p->v∈ey p->u.id=v.id->u.cM v≠0->iH u v=true->u.cM v=1/\∃ P,(P=u.A∨P=u.B)/\(P=v.A∨P=v.B):=fun{u v} hu hv hid hm hap=>by
  obtain⟨a,ha,k,hk,rfl⟩:=Zh hu;obtain⟨b,hb,j,hj,rfl⟩:=Zh hv;have aq:a=b:=ZN h.nice.Rq ha hb hid;subst aq;unfold iH at hap;cases c1:((j:Int)==((k+1:Nat):Int))
  .rw[c1,bT]at hap;cases c2:((k:Int)==0&&((j:Int)==(((bC p a).length-1-1:Nat):Int)&&a.fr==a.to))
   .grind
   .rw[c2,bV]at hap;simp only[kE,Ev]at c2;let⟨d1,d2,d3⟩:=c2;refine⟨eq_of_beq hap,(cV p a.fr).at',.inl ?_,.inr ?_⟩
    .have:k=0:=Z;subst this;rfl
    .rw[(show j+1=(bC p a).length-1 by omega)];unfold bC;grind
  .have hj1:j=k+1:=by grind
   simp_all
 cases hid:s.id==t.id
 .rw[hid,bT]at hr;unfold gC at hr;cases hm1:s.cM t==1
  .grind
  .rw[hm1,bV]at hr;let⟨x,hx,hj⟩:=Bj.1 hr;unfold gI at hj;simp[kE]at hj;obtain⟨_,_,o1,o2⟩:=hj;refine⟨eq_of_beq hm1,x.at',?_,?_⟩
   .rcases h.sJ hs hx (h.jx hs hx o1)with⟨_,_,e⟩|⟨_,_,e⟩
    .grind
    grind
   .rcases h.sJ ht hx (h.jx ht hx o2)with⟨_,_,e⟩|⟨_,_,e⟩
    .grind
    grind
 .rw[hid,bV]at hr;cases au:decide (t.k<s.k)
  .simp_all
  .rw[au,bV]at hr;rw[zd8 (h.good hs) (h.good ht)]at hm ⊢;let⟨h1,P,h2,h3⟩:=same ht hs (eq_of_beq hid).symm hm hr;exact⟨h1,P,h3,h2⟩
end
def sY(p:Pn)(L:List (Int×aR 2 Pt.c)):Prop:=∀ a∈p.az.l,(gR qv L a.id).l=dW p a.id
section
variable {S:bX}
theorem xe(hS:bk S)(p:Pn)(h0:aX p)(gV:bL p):∃ L:List (Int×aR 2 Pt.c),sY p L/\∃ N,aM S N 154 [.agg p.c] (.cR (eD L) (eL mw L)):=by
 let⟨qf,RZ⟩:=znw fun id=>Il hS p id gV;let⟨N,hN⟩:=ED p.az.l fun a (_:a∈p.az.l)=>(RZ a.id).2;obtain⟨G,hG0,hG1⟩:∃ G:List Ac->List (Int×aR 2 Pt.c),G []=[]/\∀ l a,G (l++[a])=mI (G l) a.id (qf a.id):=⟨fun l=>l.foldl (fun L a=>mI L a.id (qf a.id)) [],rfl,fun l a=>by grind⟩;have hst:∀{i:Nat}{x:Ac},p.az.l[i]?=some x->G (p.az.l.take (i+1))=mI (G (p.az.l.take i)) x.id (qf x.id):=fun hx=>by rw[jh,hx,oP,hG1]
 have hsp:∀ i,∀ a∈p.az.l.take i,(gR qv (G (p.az.l.take i)) a.id).l=dW p a.id:=fun i=>by
  induction i with
  |zero=>grind
  |succ i ih =>
   cases hx:p.az.l[i]? with
   |none=>rw[jh,hx,zne,gF];omega
   |some x =>
    intro a ha
    rw[hst hx,zdz]
    by_cases he:a.id=x.id
    .rw[bU he,(RZ x.id).1 (h0.nice.path (og hx)).1,he]
    .rw[jh,hx]at ha
     grind
 have hall:=hsp p.az.l.length;rw[rD]at hall;refine⟨G p.az.l,hall,N+p.az.l.length+200000,fun m hm d ah aJ aa id=>?_⟩;obtain⟨m,rfl⟩:=gv m 2;have main:∃ v,aL aO S (m+1+1) d ah aJ aa id 154 [.agg p.c]=some (.r,v,aa)/\v=.cR (eD (G p.az.l)) (eL mw (G p.az.l)):=by
  refine ZK (i:=i154) (hS _ _ M M M M) rfl rfl (bP rfl) fun t af=>?_;simp[slotsOf,za,zb,i154,Pn.c]at af;generalize(fun l=>if l=d then aJ else ah l:bq)=bH
  suffices jc:∀ K:eU,(∀ t' O bs ck,O[1]?=some (.map (eD (G p.az.l)) (eL mw (G p.az.l)) bs ck)->aN 31 t' [(2,.mapM (d+1) 1)]->K .ret ⟨t',O⟩)->Ex (aL aO S (m+1)) (d+1) bH (m+1) i154.body K ⟨t,[]⟩from jc _ fun t' O bs ck hO ht=>by simp[za,zb]at ht;rw[y3];refine⟨_,_,?_,Oj Z hO,rfl⟩;simp[i154,V0,seval,ht]
  intro K fin;have MR:=p.az.eZ;simp[i154,V0,seval,af];refine zm p.az.l.length (fun i st=>∃(bs:List Nat)(ck:Nat)(J:aS),st.aa=p.o::.map (eD (G (p.az.l.take i))) (eL mw (G (p.az.l.take i))) bs ck::J/\aN 31 st.t [(1,.ptrM (d+1) 0 0),(3,.mapM (d+1) 1),(10,p.az.v),(11,iv (p.az.l.length:Nat)),(12,iv i)]) Z ⟨[],0,[],by rw[W3,hG0];rfl,by simp[V0,seval,af,cZ]⟩ ?_;rintro i ⟨t,aa⟩ KA hi ⟨bs,ck,J,rfl,af⟩ bp bK bQ;simp[za,zb,zf]at af;by_cases h:i<p.az.l.length
  .have hx:p.az.l[i]?=some p.az.l[i]:=dw h;have cp:=hN _ (gQ h) (m+1) Z;have tL:=gQ h;generalize p.az.l[i]=x at hx cp tL;have hrd:bB (p.az.l.flatMap Ac.c) (i*6) 6=some [aB x.id,aB x.fr,aB x.to,x.via.v,aB x.l,aB x.r]:=xa9;have hw:=zt i;simp[Pn.c,zf]at cp;have TW:=(h0.nice.path tL).1;obtain⟨bs',gX,CZ⟩:=Bq (u:=mw) (G (p.az.l.take i)) bs ck x.id (qf x.id);have FX:=fun C n0 aJ aa t a b c=>CZ C (d+1) bH n0 1 aJ aa t a b c;simp[show mw (qf x.id)=(qf x.id).v from rfl]at FX;simp only[V0,seval,zc p.az h,bV,show((0:Int)==0)=true from rfl, *];refine bp Z _ ⟨bs',gX,_,by rw[hst hx],bS⟩
  .simp[V0,seval,af,h];refine bK _ _ ?_;simp[V0,seval,af];rw[fT Z];exact fin _ _ bs ck rfl bS
 grind
end
end
end Go.Proofs.YtjibdelmjcenhaaGreatDoor
end
