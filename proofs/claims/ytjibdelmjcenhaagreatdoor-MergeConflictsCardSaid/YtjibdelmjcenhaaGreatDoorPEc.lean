/-
  A part of the proof: the small machine, its simulation and its walks.
-/
import Derived.Test.YtjibdelmjcenhaaGreatDoorPEb
set_option linter.unusedVariables false
set_option linter.unusedSimpArgs false
set_option linter.unusedSectionVars false
set_option linter.defProp false
set_option maxRecDepth 1000000
set_option maxHeartbeats 3200000
open Nat renaming reduceLT → Xa, reduceAdd → Xb, reduceMul → Xc, reduceLeDiff → Xd, reduceEqDiff → Xe
open Go.Proofs.YtjibdelmjcenhaaGreatDoor.IV renaming int → aF
open Go.Proofs.YtjibdelmjcenhaaGreatDoor.aP renaming cells → aH
open Go.IntKind renaming i64 → aG
noncomputable section
namespace Go.Proofs.YtjibdelmjcenhaaGreatDoor
abbrev aB(n:Int):IV:=.int .i64 n
section
open Go Go.RowKit
variable {J Q R:aS}{x z:aP}
section
variable {y w:aP} {O:aS}
theorem XU:(O++(J++x::R))[O.length+J.length]?=some x:=by simp
theorem XT:(O++(J++x::R)).set (O.length+J.length) w=O++(J++w::R):=by simp
end
variable {b:IV}{d n:Nat}
theorem va{aa:aS}{a a' b':IV}(h1:freeze n d aa a=some a')(h2:freeze n d aa b=some b'):freeze (n+1) d aa (.tuple [a,b])=some (.tuple [a',b']):=by simp[freeze,h1,h2]
variable {H:Type}{i:Nat}
theorem map_take{I:Type}{f:H->I}{l:List H}{x:H}(hx:l[i]?=some x):(l.take (i+1)).map f=(l.take i).map f++[f x]:=by rw[jh,hx];simp
variable {S:bX}
section
theorem YM{l:List H}{f:H->Int}(h:l.length<=1000000):(l.map f).length<9223372036854775808:=by grind
theorem QY(hS:bk S)(p:Pn)(h1:p.ns.l.length<=1000000)(h2:p.az.l.length<=1000000):aM S (p.ns.l.length+p.az.l.length+10) 224 [.agg p.c] (.tuple [(bZ ze (p.ns.l.map Nd.id) (YM h1)).v,(bZ ze (p.az.l.map Ac.id) (YM h2)).v]):=by
 refine zr (i:=i224) (hS _ _ M M M M) rfl rfl (bP rfl) (p.ns.l.length+p.az.l.length+9) fun m hm d ah t af=>?_;simp[slotsOf,za,zb,i224,Pn.c]at af;simp[i224,V0,seval,af];refine zn (fun jj st=>∃(i:Nat)(J:aS)(lv:IV),p.ns.l.length-i<=jj/\i<=p.ns.l.length/\bE aK 1 d 1 J lv ((p.ns.l.take i).map Nd.id)/\st.aa=p.o::J/\aN 36 st.t [(1,.ptrM d 0 0),(2,lv),(3,.nilsl),(9,p.ns.v),(10,iv (p.ns.l.length:Nat)),(11,iv i)]) p.ns.l.length Z ⟨0,[],.nilsl,Z,Z,.inl ⟨M,rfl⟩,rfl,by simp[V0,seval,af,cZ]⟩ ?_;clear af;rintro jj ⟨t,aa⟩ KA ⟨i,J,lv,hjj,hi,hO,rfl,af⟩ bp bK bQ;simp[za,zb,zf]at af;by_cases h:i<p.ns.l.length
 .obtain⟨x,hx⟩:=fc (l:=p.ns.l) (i:=i) h;have hrd:bB (p.ns.l.flatMap Nd.c) (i*3) 3=some [aB x.id,aB x.at'.x,aB x.at'.y]:=(zd Nd.aV 0 3 hx Z).trans rfl;have hw:=zt i;have au:((p.ns.l.take i).map Nd.id).length=i:=by grind
  obtain⟨e,cH,J2,bz,cL⟩:=zI (Pre:=[p.o]) (n0:=J.length+1+1) (slot:=0) (k:=1) (ah:=ah) (R:=[aH [aB x.id,aB x.at'.x,aB x.at'.y],.free]) ze hO (ys:=[x.id]) M (by grind) (by grind) rfl rfl;simp[gu,fP,eT,jm,aK,zf,fB,gq,gF,eB]at bz;rw[←map_take (f:=Nd.id) hx]at cL;simp only[V0,seval,zc p.ns h,rep,zh,zl,zq,zw, *];exact xfc
 .simp[V0,seval,af,h];refine bK _ _ ?_;simp[V0,seval,af];have F8:bE aK 1 d 1 J lv (p.ns.l.map Nd.id):=by grind
  clear hO;refine zm p.az.l.length (fun i st=>∃(J2:aS)(lw:IV),bE aK 1 d (J.length+1) J2 lw ((p.az.l.take i).map Ac.id)/\st.aa=p.o::(J++J2)/\aN 36 st.t [(2,lv),(3,lw),(22,p.az.v),(23,iv (p.az.l.length:Nat)),(24,iv i)]) Z ⟨[],.nilsl,.inl ⟨M,rfl⟩,M,by simp[V0,seval,af,cZ]⟩ ?_;clear af bp bK bQ;rintro i ⟨t,aa⟩ KA hi ⟨J2,lw,hO,rfl,af⟩ bp bK bQ;simp[za,zb,zf]at af;by_cases h:i<p.az.l.length
  .obtain⟨x,hx⟩:=fc (l:=p.az.l) (i:=i) h;have hrd:bB (p.az.l.flatMap Ac.c) (i*6) 6=some [aB x.id,aB x.fr,aB x.to,x.via.v,aB x.l,aB x.r]:=(zd Ac.aV 0 6 hx Z).trans rfl;have hw:=zt i;have au:((p.az.l.take i).map Ac.id).length=i:=by grind
   obtain⟨e,cH,J3,bz,cL⟩:=zI (Pre:=p.o::J) (n0:=J.length+(J2.length+1)+1) (slot:=0) (k:=1) (ah:=ah) (R:=[aH [aB x.id,aB x.fr,aB x.to,x.via.v,aB x.l,aB x.r],.free]) ze hO (ys:=[x.id]) M (by grind) (by grind) rfl rfl;simp[gu,eT,jm,aK,zf,fB,gq,gF,eB]at bz;rw[←map_take (f:=Ac.id) hx]at cL;simp only[V0,seval,zc p.az h,XU,XT,rep,zh,zl,zq,zw, *];exact bp Z _ ⟨J3,cH,cL,rfl,bS⟩
  .simp[V0,seval,af,h];refine bK _ _ ?_;have cL:bE aK 1 d (J.length+1) J2 lw (p.az.l.map Ac.id):=by grind
   obtain⟨m,rfl⟩:=gv m 1;have f1:=yy (Pre:=[p.o]) (m:=m) ze (fun a x hx=>by
    simp[aK,eG,gm,gw]at hx;subst hx;exact zp) Z (YM h1) (F8.more J2)
   have f2:=yy (Pre:=p.o::J) (m:=m) ze (fun a x hx=>by
    simp[aK,eG,gm,gw]at hx;subst hx;exact zp) Z (YM h2) cL
   simp[gu,fP]at f1 f2;simp only[V0,seval,af];exact⟨_,rfl,va f1 f2⟩
end
def b7(a:Ac)(path:aR 2 Pt.c):List IV:=[aB a.id,aB a.fr,aB a.to,a.via.v,aB a.l,aB a.r,path.v]
structure Sg where
 a:Ac
 path:aR 2 Pt.c
 k:Nat
 hk:k+1<path.l.length
def Sg.g(s:Sg):List IV:=[.ptrC (b7 s.a s.path) 0,aB (s.k:Int)]
def Sg.e(s:Sg):IV:=.agg s.g
def Sg.p0(s:Sg):Pt:=s.path.l[s.k]'(by have:=s.hk;omega)
def Sg.p1(s:Sg):Pt:=s.path.l[s.k+1]'s.hk
def Sg.w(s:Sg):Int:=qK s.p0.x s.p1.x
def Sg.ea(s:Sg):Int:=rz s.p0.x s.p1.x
def tT(x y:Int):Int:=if x<y then -1 else if y<x then 1 else 0
def Fe:MB Sg.g Sg.e 2 true:=xc8
theorem abt(s:Sg):bB (s.path.l.flatMap Pt.c) (s.k*2) 2=some [aB s.p0.x,aB s.p0.y]:=(zd (sz:=2) (fun _=>rfl) 0 2 (dw (by have:=s.hk;omega)) Z).trans rfl
def abr(s:Sg):bB (s.path.l.flatMap Pt.c) ((s.k+1)*2) 2=some [aB s.p1.x,aB s.p1.y]:=(zd (sz:=2) (fun _=>rfl) 0 2 (dw s.hk) Z).trans rfl
variable {ah:bq}
section
theorem zbk(hS:bk S)(s:Sg):aM S 4 262 [.agg s.g] (.tuple [.agg s.p0.c,.agg s.p1.c]):=by refine zr (i:=i262) (hS _ _ M M M M) rfl rfl (bP rfl) (3) fun m hm d ah t af=>?_;simp[slotsOf,za,zb,i262,Sg.g,b7]at af;have hk:=s.hk;have hf:=s.path.eZ;simp only[i262,V0,seval,af,zc s.path (show s.k<s.path.l.length by omega),zc s.path hk,(abt s),(abr s),(oS:aT .i64 ((s.k:Int)+1)=((s.k+1:Nat):Int))];refine⟨by simp[comm],?_⟩;obtain⟨m,rfl⟩:∃ q,m=q+3:=⟨m-3,Z⟩;simp only[V0,seval,af,Pt.c];exact⟨_,rfl,by rfl⟩
theorem DZ(hS:bk S)(s:Sg):aM S 2 264 [.agg s.g] (.bool ((s.k:Int)==0)):=by refine zg (i:=i264) (hS _ _ M M M M) rfl rfl (bP rfl) (1) Z zk fun m hm d ah t af=>?_;simp[slotsOf,za,zb,i264,Sg.g,b7]at af;simp[i264,V0,seval,af]
theorem JE(hS:bk S)(s:Sg):aM S 2 265 [.agg s.g] (.bool ((s.k:Int)==((s.path.l.length-2:Nat):Int))):=by refine zg (i:=i265) (hS _ _ M M M M) rfl rfl (bP rfl) (1) Z zk fun m hm d ah t af=>?_;simp[slotsOf,za,zb,i265,Sg.g,b7]at af;have hk:=s.hk;have hf:=s.path.eZ;simp[i265,V0,seval,af,(oS:aT .i64 ((s.path.l.length:Int)-2)=((s.path.l.length-2:Nat):Int))]
theorem AI(hS:bk S)(s:Sg):aM S 6 259 [.agg s.g] (aB s.w):=by
 refine zg (i:=i259) (hS _ _ M M M M) rfl rfl (bP rfl) (5) Z zp fun m hm d ah t af=>?_;simp[slotsOf,za,zb,i259,Sg.g,b7]at af;have c0:=zbk hS s m Z;simp[Sg.g,b7,Pt.c,zf]at c0;have hmn:∀ a b:Int,(if b<a then b else a)=qK a b:=fun _ _=>rfl
 simp[i259,V0,seval,af,c0,hmn,Sg.w]
theorem UX(hS:bk S)(s:Sg):aM S 6 260 [.agg s.g] (aB s.ea):=by
 refine zg (i:=i260) (hS _ _ M M M M) rfl rfl (bP rfl) (5) Z zp fun m hm d ah t af=>?_;simp[slotsOf,za,zb,i260,Sg.g,b7]at af;have c0:=zbk hS s m Z;simp[Sg.g,b7,Pt.c,zf]at c0;have hmx:∀ a b:Int,(if a<b then b else a)=rz a b:=fun _ _=>rfl
 simp[i260,V0,seval,af,c0,ez,hmx,Sg.ea]
theorem aa5(hS:bk S)(x y:Int):aM S 4 258 [iv x,iv y] (aB (tT x y)):=by
 refine zg (i:=i258) (hS _ _ M M M M) rfl rfl (bP rfl) (3) Z zp fun m hm d ah t af=>?_;simp[V2,i258]at af;have c0:=fun x d ah aJ aa i=>u0 hS x m Z d ah aJ aa i;unfold tT;by_cases h:x<y
 .rw[bU h];simp[i258,V0,seval,af,c0,h]
 .rw[b9 h];by_cases h2:y<x
  .rw[bU h2];simp[i258,V0,seval,af,c0,h,ez,h2]
  .rw[b9 h2];simp[i258,V0,seval,af,c0,h,ez,h2]
theorem GM(hS:bk S)(s u:Sg):aM S 8 257 [.agg s.g,.agg u.g] (aB (tT s.w u.w)):=by refine zg (i:=i257) (hS _ _ M M M M) rfl rfl (bP rfl) (7) Z zp fun m hm d ah t af=>?_;simp[V2,i257,Sg.g,b7]at af;have c0:=AI hS s m Z;have c1:=AI hS u m Z;have c2:=aa5 hS s.w u.w m Z;simp[Sg.g,b7,zf]at c0 c1 c2;simp[i257,V0,seval,af,c0,c1,c2]
def FB(hS:bk S){cB:aS}{b:Nat}:Eu S 8 d ah cB b Sg.e 257 [] (fun s u=>tT s.w u.w):=fun m hm aJ aa id x y _=>GM hS x y m hm d ah aJ aa id
end
variable {aJ:aS}{args:List IV}{f:FuncId}{m:Nat}
theorem ZJ{i:gP}{v:IV}(hS:S f args=none)(hi:aO f=some i)(hm:i.mode=0)(hl:args.length<=i.ntmps){N:Nat}{aa:aS}{id:Nat}(hN:1<=N)(hmN:N+1<=m)(hv:Fz 1 v)
  (h:∀ m,N<=m->∀ t,aN i.ntmps t (slotsOf 0 args)->Ex (aL aO S m) (d+1) (fun l=>if l=d then aJ else ah l) m i.body (Fin (d+1) (fun l=>if l=d then aJ else ah l) i.res v) ⟨t,[]⟩):aL aO S m d ah aJ aa id f args=some (.r,v,aa):=by
 obtain⟨m,rfl⟩:∃ q,m=q+1:=⟨m-1,Z⟩
 obtain ⟨o,st,h1,h2,h3⟩:=h m Z (args++List.replicate (i.ntmps - args.length) (.tuple [])) ⟨by grind,fun p hp=>by
  let⟨j,h1,h2⟩:=ym hp;rw[yc,EB,h1,eB,pN (ew.1 h2).1,h2];rfl⟩
 exact xba
def dO(L:List (Int×Pt)):List IV:=L.map fun kv=>aB kv.1
def dU(L:List (Int×Pt)):List IV:=L.map fun kv=>.agg kv.2.c
def iU(L:List (Int×Pt))(id:Int):Pt:=((L.find? fun kv=>id==kv.1).map Prod.snd).getD ⟨0,0⟩
theorem Y7(id:Int):∀(L:List (Int×Pt))(n:Nat),eY (false,[1]) (aB id) (dO L) n=some ((L.findIdx? fun kv=>id==kv.1).map (n+·))
 |[],n=>rfl
 |kv::L,n=>by
  have e:MT (false,[1]) (aB id) (aB kv.1)=some (id==kv.1):=by
   exact xfg
  show(match MT (false,[1]) (aB id) (aB kv.1)with|some true=>some (some n)|some false=>eY (false,[1]) (aB id) (dO L) (n+1)|none=>none)=_
  rw[e];cases h:id==kv.1
  .simp only[(Y7 id L (n+1)),Vx,h];exact xeo
  grind
theorem zfg(id:Int)(L:List (Int×Pt)):∃ r:Option IV,lC (false,[1]) (aB id) (dO L) (dU L)=some r/\r.getD (.agg [aB 0,aB 0])=.agg [aB (iU L id).x,aB (iU L id).y]:=by
 have h0:(jV false (IV.int .i64 id)&&(IV.int .i64 id).cells.length==[1].length)=true:=rfl;unfold lC;rw[bU h0,Y7];cases h:L.findIdx? fun kv=>id==kv.1 with
 |none =>
  refine⟨none,rfl,?_⟩
  have h1:(L.find? fun kv=>id==kv.1)=none:=by grind
  simp[iU,h1]
 |some j =>
  let⟨hj,hq,hmin⟩:=EW.1 h
  have h1:(L.find? fun kv=>id==kv.1)=some L[j]:=by rw[zmv];grind
  refine⟨some (.agg (L[j]).2.c),?_,?_⟩
  .simp[dU,hj]
  .simp[iU,h1,Pt.c,zf]
def jK(c:Int)(s u:Sg):Bool:=bif (((s.k+1:Nat):Int)==(u.k:Int))||((s.a.fr==s.a.to)&&(((s.k:Int)==0)&&((u.k:Int)==((u.path.l.length-2:Nat):Int))))then c==1 else c==0
variable {K:eU}{ck j:Nat}
section
theorem vF(hS:bk S)(s u:Sg)(c:Int)(hm:4<=m)(t:List IV)(O:aS)(af:aN 137 t [(3,.ptrM d 0 0),(4,.ptrM d 1 0),(11,aB c)])
  (hK:∀ t' O',aN 137 t' [(6,.bool (jK c s u))]->K .ret ⟨t',O'⟩):Ex (aL aO S m) d ah m (i261.body.sub [1,1,1,1,0,1,0,1]) K ⟨t,aH s.g::aH u.g::O⟩:=by
 simp[za,zb]at af
 have hk:=s.hk
 have hf:=s.path.eZ
 have hw:aT .i64 ((s.k:Int)+1)=((s.k+1:Nat):Int):=oS
 have c1:=DZ hS s m Z
 have c2:=JE hS u m Z
 simp[Sg.g,b7]at c1 c2
 cases h1:((s.k+1:Nat):Int)==(u.k:Int)
 .cases h2:s.a.fr==s.a.to
  .simp only[i261,IC.sub,V0,Xa,Xe,af,Sg.g,b7,hw,h1,h2,Xb]
   exact hK _ _ (by simp only[V0,Xa,af,jK,h1,h2,zno,dZ,bT])
  .cases h3:(s.k:Int)==0
   .simp only[i261,IC.sub,V0,Xa,Xe,Sg.g,b7,Xb, *]
    exact hK _ _ (by simp only[V0,Xa,af,jK,h1,h2,h3,zno,dZ,nr,bT])
   .cases h4:(u.k:Int)==((u.path.l.length-2:Nat):Int)
    .simp only[i261,IC.sub,V0,Xa,Xe,Sg.g,b7,Xb, *]
     exact hK _ _ (by simp only[V0,Xa,jK,zno,nr,bT, *])
    .simp only[i261,IC.sub,V0,Xa,Xe,Sg.g,b7,Xb, *]
     exact hK _ _ (by simp[V0,Xa,jK,RM,bV, *])
 .simp only[i261,IC.sub,V0,Xa,Xe,af,Sg.g,b7,hw,h1,Xb]
  exact hK _ _ (by simp only[V0,Xa,af,jK,h1,k9,bV])
def dK(L:List (Int×Pt))(s u:Sg)(id:Int):Bool:=(id==u.a.fr||id==u.a.to)&&(mz s.p0 s.p1 (iU L id)&&mz u.p0 u.p1 (iU L id))
theorem LS(hS:bk S)(s u:Sg)(L:List (Int×Pt)){dm:Nat}(hm:12<=m){bs:List Nat}(hdm:dm<d)(hmap:(ah dm)[j]?=some (.map (dO L) (dU L) bs ck))(t:List IV)(F1 F2:aP)(O:aS)
  (af:aN 137 t [(2,.mapM dm j),(3,.ptrM d 0 0),(4,.ptrM d 1 0),(7,.ptrM d 3 0),(8,.ptrM d 4 0),(9,.ptrM d 6 0),(10,.ptrM d 7 0)])
  (hK:∀ t' O',aN 137 t' [(6,.bool (dK L s u s.a.fr||dK L s u s.a.to))]->K .ret ⟨t',O'⟩) :
  Ex (aL aO S m) d ah m (i261.body.sub [1,1,1,1,1,1]) K ⟨t,aH s.g::aH u.g::F1::aH s.p0.c::aH s.p1.c::F2::aH u.p0.c::aH u.p1.c::O⟩:=by
 simp[za,zb]at af
 have RV:rep [IV.int .i64 0] 2=[aB 0,aB 0]:=cU rfl rfl
 have co:∀(u v w:Pt) d ah aJ aa i,aL aO S m d ah aJ aa i 263 [.agg [aB u.x,aB u.y],.agg [aB v.x,aB v.y],.agg [aB w.x,aB w.y]]=some (.r,.bool (mz u v w),aa):=fun u v w d ah aJ aa i=>JD hS u v w m Z d ah aJ aa i
 have hne:¬ (dm=d):=Z
 simp[i261,IC.sub,V0,Xa,Xb,Xd,Xe,af,Sg.g,b7,Pt.c]
 refine zn (fun jj st=>∃(k:Nat)(O:aS),2-k<=jj/\k<=2/\(1<=k->dK L s u s.a.fr=false)/\(2<=k->dK L s u s.a.to=false)/\st.aa=aH [.ptrC (b7 s.a s.path) 0,aB (s.k:Int)]::aH [.ptrC (b7 u.a u.path) 0,aB (u.k:Int)]::F1::aH [aB s.p0.x,aB s.p0.y]::aH [aB s.p1.x,aB s.p1.y]::F2::aH [aB u.p0.x,aB u.p0.y]::aH [aB u.p1.x,aB u.p1.y]::O/\aN 137 st.t [(2,.mapM dm j),(3,.ptrM d 0 0),(4,.ptrM d 1 0),(7,.ptrM d 3 0),(8,.ptrM d 4 0),(9,.ptrM d 6 0),(10,.ptrM d 7 0),(99,.agg [aB s.a.fr,aB s.a.to]),(100,iv k)]) 2 Z ⟨0,O,Z,Z,Z,Z,rfl,by simp[V0,Xa,Xe,af,cZ]⟩ ?_
 clear af
 rintro jj ⟨t,aa⟩ KB ⟨k,O,hjk,hk,hk1,hk2,rfl,af⟩ gJ jL kP
 simp[za,zb,zf]at af
 have Db:k=0∨k=1∨k=2:=Z
 rcases Db with rfl|rfl|rfl
 .have au:(((0:Nat):Int)<2)=True:=eq_true M
  have hw0:aT .i64 (((0:Nat):Int)+1)=((1:Nat):Int):=rfl
  have hn0:lg (aB ((0:Nat):Int))=some 0:=zY
  have T6:(0<2)=True:=eq_true M
  let⟨r,jE,hr2⟩:=zfg s.a.fr L
  have ev:∀(C:Call)(n0:Nat)(aJ aa:aS)(t:List IV)(x ix:bD),ρ t x=.mapM dm j->ρ t ix=aB s.a.fr->bY C d ah n0 aJ aa t (.lookup (.agg [aB 0,aB 0]) (false,[1]) false x ix)=some (.r,.agg [aB (iU L s.a.fr).x,aB (iU L s.a.fr).y],aa):=fun C n0 aJ aa t x ix h1 h2=>xd8
  cases a1:s.a.fr==u.a.fr
  .cases a2:s.a.fr==u.a.to
   .skip
    have R6:dK L s u s.a.fr=false:=by simp[dK,a1,a2]
    simp only[V0,Xa,Xb,Xe,b7,cE,qZ, *]
    exact gJ _ 1 Z ⟨1,_,Z,Z,fun _=>R6,fun h=>absurd h Z,rfl,by simp[V0,Xa,Xe,af]⟩
   .skip
    cases o1:mz s.p0 s.p1 (iU L s.a.fr)
    .skip
     simp only[V0,Xa,Xb,Xe,b7,cE,qZ, *]
     exact gJ _ 1 Z ⟨1,_,Z,Z,fun _=>(by simp[dK,a1,a2,o1]),fun h=>absurd h Z,rfl,by simp[V0,Xa,Xe,af]⟩
    .cases o2:mz u.p0 u.p1 (iU L s.a.fr)
     .skip
      simp only[V0,Xa,Xb,Xe,b7,cE,qZ, *]
      exact gJ _ 1 Z ⟨1,_,Z,Z,fun _=>(by simp[dK,a1,a2,o1,o2]),fun h=>absurd h Z,rfl,by simp[V0,Xa,Xe,af]⟩
     .skip
      simp only[V0,Xa,Xb,Xe,b7,cE,qZ, *]
      refine kP _ ?_
      simp[V0]
      exact hK _ _ (by simp[V0,Xa,af,(show dK L s u s.a.fr=true by simp[dK,a1,a2,o1,o2]),k9])
  .skip
   cases o1:mz s.p0 s.p1 (iU L s.a.fr)
   .skip
    simp only[V0,Xa,Xb,Xe,b7,cE,qZ, *]
    exact gJ _ 1 Z ⟨1,_,Z,Z,fun _=>(by simp[dK,a1,o1]),fun h=>absurd h Z,rfl,by simp[V0,Xa,Xe,af]⟩
   .cases o2:mz u.p0 u.p1 (iU L s.a.fr)
    .skip
     simp only[V0,Xa,Xb,Xe,b7,cE,qZ, *]
     exact gJ _ 1 Z ⟨1,_,Z,Z,fun _=>(by simp[dK,a1,o1,o2]),fun h=>absurd h Z,rfl,by simp[V0,Xa,Xe,af]⟩
    .skip
     simp only[V0,Xa,Xb,Xe,b7,cE,qZ, *]
     refine kP _ ?_
     simp[V0]
     exact hK _ _ (by simp[V0,Xa,af,(show dK L s u s.a.fr=true by simp[dK,a1,o1,o2]),k9])
 .have au:(((1:Nat):Int)<2)=True:=eq_true M
  have hw0:aT .i64 (((1:Nat):Int)+1)=((2:Nat):Int):=rfl
  have hn0:lg (aB ((1:Nat):Int))=some 1:=zY
  have T6:(1<2)=True:=eq_true M
  let⟨r,jE,hr2⟩:=zfg s.a.to L
  have ev:∀(C:Call)(n0:Nat)(aJ aa:aS)(t:List IV)(x ix:bD),ρ t x=.mapM dm j->ρ t ix=aB s.a.to->bY C d ah n0 aJ aa t (.lookup (.agg [aB 0,aB 0]) (false,[1]) false x ix)=some (.r,.agg [aB (iU L s.a.to).x,aB (iU L s.a.to).y],aa):=fun C n0 aJ aa t x ix h1 h2=>xd8
  cases a1:s.a.to==u.a.fr
  .cases a2:s.a.to==u.a.to
   .skip
    simp only[V0,Xa,Xb,Xe,b7,cE,Ba, *]
    exact gJ _ 0 Z ⟨2,_,Z,Z,fun _=>hk1 Z,fun _=>(by simp[dK,a1,a2]),rfl,by simp[V0,Xa,Xe,af]⟩
   .skip
    cases o1:mz s.p0 s.p1 (iU L s.a.to)
    .skip
     simp only[V0,Xa,Xb,Xe,b7,cE,Ba, *]
     exact gJ _ 0 Z ⟨2,_,Z,Z,fun _=>hk1 Z,fun _=>(by simp[dK,a1,a2,o1]),rfl,by simp[V0,Xa,Xe,af]⟩
    .cases o2:mz u.p0 u.p1 (iU L s.a.to)
     .skip
      simp only[V0,Xa,Xb,Xe,b7,cE,Ba, *]
      exact gJ _ 0 Z ⟨2,_,Z,Z,fun _=>hk1 Z,fun _=>(by simp[dK,a1,a2,o1,o2]),rfl,by simp[V0,Xa,Xe,af]⟩
     .skip
      simp only[V0,Xa,Xb,Xe,b7,cE,Ba, *]
      refine kP _ ?_
      simp[V0]
      exact hK _ _ (by simp[V0,Xa,af,hk1 Z,(show dK L s u s.a.to=true by simp[dK,a1,a2,o1,o2]),RM])
  .skip
   cases o1:mz s.p0 s.p1 (iU L s.a.to)
   .skip
    simp only[V0,Xa,Xb,Xe,b7,cE,Ba, *]
    exact gJ _ 0 Z ⟨2,_,Z,Z,fun _=>hk1 Z,fun _=>(by simp[dK,a1,o1]),rfl,by simp[V0,Xa,Xe,af]⟩
   .cases o2:mz u.p0 u.p1 (iU L s.a.to)
    .skip
     simp only[V0,Xa,Xb,Xe,b7,cE,Ba, *]
     exact gJ _ 0 Z ⟨2,_,Z,Z,fun _=>hk1 Z,fun _=>(by simp[dK,a1,o1,o2]),rfl,by simp[V0,Xa,Xe,af]⟩
    .skip
     simp only[V0,Xa,Xb,Xe,b7,cE,Ba, *]
     refine kP _ ?_
     simp[V0]
     exact hK _ _ (by simp[V0,Xa,af,hk1 Z,(show dK L s u s.a.to=true by simp[dK,a1,o1,o2]),RM])
 .simp[V0,Xa,af,(eq_false M:(((2:Nat):Int)<2)=False)]
  refine jL _ _ ?_
  simp[V0]
  exact hK _ _ (by simp[V0,Xa,af,hk1 Z,hk2 Z,Vq])
end
def Sg.meet(s u:Sg):Int:=uQ s.p0 s.p1 u.p0 u.p1
def mj(L:List (Int×Pt))(s u:Sg):Bool:=bif s.a.id==u.a.id then(bif decide (u.k<s.k)then jK (s.meet u) u s else jK (s.meet u) s u)else bif s.meet u==1 then dK L s u s.a.fr||dK L s u s.a.to else s.meet u==0
theorem U1(hS:bk S)(s u:Sg)(L:List (Int×Pt)){aa:aS}{id:Nat}{bs:List Nat}(hm:20<=m)(hmap:aJ[j]?=some (.map (dO L) (dU L) bs ck)) :
  aL aO S m d ah aJ aa id 261 [.agg s.g,.agg u.g,.mapM d j]=some (.r,.bool (mj L s u),aa):=by
 refine ZJ (i:=i261) (hS _ _ M M M M) rfl rfl (bP rfl) (N:=19) Z hm zk fun m hm t af=>?_
 simp[V2,Xb,i261]at af
 have Wh:((fun l=>if l=d then aJ else ah l:bq) d)[j]?=some (.map (dO L) (dU L) bs ck):=by grind
 generalize(fun l=>if l=d then aJ else ah l:bq)=bH at Wh ⊢
 have hce:=fun dd oo aJ aa i=>zbk hS s m Z dd oo aJ aa i
 have hcu:=fun dd oo aJ aa i=>zbk hS u m Z dd oo aJ aa i
 have o8:=fun dd oo aJ aa i=>US hS s.p0 s.p1 u.p0 u.p1 m Z dd oo aJ aa i
 simp[Sg.g,b7,Pt.c,zf]at hce hcu o8
 have hA1:=fun(K:eU) t O=>vF hS s u (s.meet u) (m:=m) (d:=d+1) (ah:=bH) Z (K:=K) t O
 have hA2:=fun(K:eU) t O=>vF hS u s (s.meet u) (m:=m) (d:=d+1) (ah:=bH) Z (K:=K) t O
 have hB1:=fun(K:eU) t F1 F2 O=>LS hS s u L (m:=m) (d:=d+1) (ah:=bH) Z Z Wh (K:=K) t F1 F2 O
 rw[show i261.body=.seq (i261.body.sub [0]) (.seq (i261.body.sub [1,0]) (.seq (i261.body.sub [1,1,0]) (.seq (i261.body.sub [1,1,1,0]) (.seq (.seq (i261.body.sub [1,1,1,1,0,0]) (.cond (.tmp 42) (.seq (i261.body.sub [1,1,1,1,0,1,0,0]) (i261.body.sub [1,1,1,1,0,1,0,1])) .skip)) (.seq (i261.body.sub [1,1,1,1,1,0]) (i261.body.sub [1,1,1,1,1,1]))))))from rfl]
 generalize i261.body.sub [1,1,1,1,0,1,0,1]=A at hA1 hA2 ⊢
 generalize i261.body.sub [1,1,1,1,1,1]=B at hB1 ⊢
 have hmt:uQ s.p0 s.p1 u.p0 u.p1=s.meet u:=rfl
 rw[hmt]at o8
 cases h0:s.a.id==u.a.id
 .cases h1:s.meet u==1
  .have iS:∀ z:Int,(z != 1)=!(z==1):=fun z=>rfl
   simp only[i261,IC.sub,V0,seval,Sg.g,b7, *]
   simp[V0,seval,mj,h0,h1,bT]
  .have iS:∀ z:Int,(z != 1)=!(z==1):=fun z=>rfl
   simp[i261,IC.sub,V0,seval,Sg.g,b7, *]
   refine hB1 _ _ _ _ _ bS fun t' O' ht=>?_
   simp[za,zb]at ht
   simp[V0,seval,ht,mj,h0,h1,bV,bT]
 .by_cases h1:(u.k:Int)<(s.k:Int)
  .simp[i261,IC.sub,V0,seval,Sg.g,b7,ez, *]
   refine hA2 _ _ _ bS fun t' O' ht=>?_
   simp[za,zb]at ht
   simp[V0,seval,ht,mj,h0,(show decide (u.k<s.k)=true by grind),bV]
  .simp[i261,IC.sub,V0,seval,Sg.g,b7,ez, *]
   refine hA1 _ _ _ bS fun t' O' ht=>?_
   simp[za,zb]at ht
   simp[V0,seval,ht,mj,h0,(show decide (u.k<s.k)=false by grind),bV,bT]
theorem zF{i:gP}{aa:aS}{id:Nat}{Q:dI×IV×List aP->Prop}(hS:S f args=none)(hi:aO f=some i)(hm:i.mode≠2/\i.mode≠3/\¬ 4<=i.mode)(hl:args.length<=i.ntmps)
  (h:∀ t,aN i.ntmps t (slotsOf 0 args)->Ex (aL aO S m) (d+1) (fun l=>if l=d then aJ else ah l) m i.body (fun o st=>(o=.normal∨o=.ret)/\∃ v r,bh (d+1) (fun l=>if l=d then aJ else ah l) st i.res=some v/\leave m d st.aa aa id i.mode v=some r/\Q r) ⟨t,[]⟩):∃ r,aL aO S (m+1) d ah aJ aa id f args=some r/\Q r:=by
 obtain ⟨o,st,h1,h2,v,r,h3,h4,h5⟩:=h (args++List.replicate (i.ntmps - args.length) (.tuple [])) ⟨by simp; omega,fun p hp=>by
  obtain⟨j,h1,h2⟩:=ym hp;rw[yc,EB,h1,eB,pN (ew.1 h2).1,h2];rfl⟩
 refine⟨r,?_,h5⟩
 have hm4:¬ 4<=i.mode%7:=Z
 have hm7:i.mode≠7:=Z
 simp only[aL,hS,hi,b9 hm.1,b9 hm.2.1,b9 hm4,yG hm7,zi,h1]
 rcases h2 with rfl|rfl<;>simp[ended,h3,h4]
variable {k:Nat}
theorem zcg{g:H->List IV}{sz:Nat}(hs:∀ a,(g a).length=sz){n0 slot:Nat}{Pre:aS}{lv:IV}{xs ys:List H}(h:bE g sz d Pre.length J lv xs)(hy:ys.length≠0)(hx:xs.length+ys.length<=1073741824)(hk:n0+slot=Pre.length+(J.length+k))(hf:R[k]?=some .free)
  (hsc:(ys.flatMap g).all IV.scalar=true) :
  ∃ e cH J2,aY d n0 (look d ah (Pre++(J++R))) (Pre++(J++R)) sz lv (ys.flatMap g) ys.length slot=some (e,cH,Pre++J2)/\bE g sz d Pre.length J2 cH (xs++ys)/\∀ j x,j<J.length+k->(J++R)[j]?=some x->(J.length<=j∨x≠aH (xs.flatMap g))->J2[j]?=some x:=by
 have lz:k<R.length:=(ew.1 hf).1
 have gU:(J++R)[J.length+k]?=some .free:=by rw[q8 Z,znu];exact hf
 have au:J.length+k<(J++R).length:=by rw[mV];omega
 have hne:xs++ys≠[]:=by intro he;exact hy (by rw[(zml.1 he).2];rfl)
 rcases h with⟨rfl,rfl⟩|⟨b,_,rfl,h2⟩
 .rw[yp hy (by unfold bound;simp at hx;omega)]
  unfold dD
  rw[hk,zN,gU]
  simp only[zi]
  rw[yd]
  refine⟨_,_,_,rfl,.inr ⟨J.length+k,hne,M,?_⟩,fun j x hj hx2 _=>?_⟩
  .rw[vW au]
   rfl
  .rw[EV Z]
   exact hx2
 .have hb:b<J.length:=(ew.1 h2).1
  have fE:(J++R)[b]?=some (aH (xs.flatMap g)):=by rw[pN hb];exact h2
  rw[zQ hy hx (zj hs) hsc (by simp only[look,if_true,zN];exact fE)]
  unfold iG
  rw[hk,zN,gU]
  simp only[zi]
  rw[yd,yd]
  refine⟨_,_,_,rfl,.inr ⟨J.length+k,hne,M,?_⟩,fun j x hj hx2 xR=>?_⟩
  .rw[vW (by rw[Vv];exact au)]
   simp
  .rw[EV Z]
   by_cases hjb:j=b
   .subst hjb
    rw[fE]at hx2
    cases hx2
    rcases xR with h3|h3
    .omega
    .exact absurd rfl h3
   .rw[EV (Se hjb)]
    exact hx2
def DX(d:Nat)(sb:Sg×Nat):List IV:=[.ptrM d sb.2 0,aB (sb.1.k:Int)]
def JB(d:Nat)(sb:Sg×Nat):(DX d sb).length=2:=rfl
def jO(J:aS)(xs:List (Sg×Nat)):Prop:=∀ sb∈xs,1<=sb.2/\J[sb.2-1]?=some (aH (b7 sb.1.a sb.1.path))
variable {a:Ac}{xs:List (Sg×Nat)}
theorem xJ{path:aR 2 Pt.c}:(aP.cells (b7 a path))≠aH (xs.flatMap (DX d)):=by
 intro h;cases xs with
 |nil=>simp[b7]at h
 |cons x xs=>simp[b7,DX]at h
theorem zch(a:Pt):∀ x∈a.c,Fz 1 x:=by intro x hx;simp only[Pt.c,eG,gm,gw]at hx;rcases hx with rfl|rfl<;>exact zp
theorem HI{n d:Nat}{aa:aS}(hn:4<=n):∀{xs:List (Sg×Nat)},(∀ sb∈xs,aa[sb.2]?=some (aH (b7 sb.1.a sb.1.path)))->(xs.flatMap (DX d)).mapM (freeze n d aa)=some ((xs.map Prod.fst).flatMap Sg.g)
 |[],_=>rfl
 |sb::xs,h=>by
  obtain⟨n,rfl⟩:∃ q,n=q+4:=⟨n-4,Z⟩;have ih:=HI (n:=n+4) (d:=d) hn (xs:=xs) fun x hx=>h x (tj _ hx);have h1:=h sb (qj ..);have f1:freeze (n+4) d aa (.ptrM d sb.2 0)=some (.ptrC (b7 sb.1.a sb.1.path) 0):=by have age:freeze (n+3) d aa sb.1.a.via.v=some sb.1.a.via.v:=zP zch sb.1.a.via (n+3) Z d aa;have hpa:freeze (n+3) d aa sb.1.path.v=some sb.1.path.v:=zP zch sb.1.path (n+3) Z d aa;have hi:∀ z:Int,freeze (n+3) d aa (aB z)=some (aB z):=fun z=>rfl;unfold freeze;simp only[if_true,h1,b7,mq,qi,age,hpa,hi,nY,nZ,iD,iJ]
  have f2:freeze (n+4) d aa (aB (sb.1.k:Int))=some (aB (sb.1.k:Int)):=rfl;rw[eT,mQ,eT];simp only[DX,Sg.g,gu,fP,mq,f1,f2,nY,nZ,iD];rw[ih];rfl
def jO.keep{J2:aS}(h:jO J xs)(hk:∀(j:Nat)(x:aP),J[j]?=some x->x≠aP.cells (xs.flatMap (DX d))->J2[j]?=some x):jO J2 xs:=fun sb hs=>⟨(h sb hs).1,hk _ _ (h sb hs).2 xJ⟩
theorem jO.more{xs:List (Sg × Nat)}(h:jO J xs):jO (J++R) xs:=fun sb hs=>⟨(h sb hs).1,by
 have:=(h sb hs).2;grind⟩
theorem FM{bi id:Nat}{bJ aa:aS}{b:Bool}(hn:4<=n)(hb:bJ[bi]?=some (aH (xs.flatMap (DX (d+1)))))(hl:∀ sb∈xs,bJ[sb.2]?=some (aH (b7 sb.1.a sb.1.path)))(hid:aa[id]?=some .free) :
  leave n d bJ aa id 1 (.tuple [.slM (d+1) bi 0 xs.length xs.length 2 false,.bool b])=some (.a,.tuple [.slM d id 0 xs.length xs.length 2 false,.bool b],aa.set id (aH ((xs.map Prod.fst).flatMap Sg.g))):=by
 obtain⟨n,rfl⟩:=gv n 4
 have h1:∀ sb∈xs,(bJ.set bi .gone)[sb.2]?=some (aH (b7 sb.1.a sb.1.path)):=fun sb hs=>by
  have hne:bi≠sb.2:=by intro he;have:=hl sb hs;rw[←he,hb]at this;exact xJ (s6 this).symm
  grind
 have eX:seg (xs.flatMap (DX (d+1))) 0 (xs.length*2)=some (xs.flatMap (DX (d+1))):=by have hlen:(xs.flatMap (DX (d+1))).length=xs.length*2:=zj (JB (d+1));exact xeu
 have ada:∀ o,freeze (n+4) (d+1) o (.bool b)=some (.bool b):=fun o=>rfl
 unfold leave
 simp[if_true,handed,hb,eX,(HI (n:=n+4) (d:=d+1) Z h1),mq,qi,ada,nY,nZ,iD,dD,hid,zi]
structure Sp where
 (id fr to:Int)
 (k n:Nat)
 (A B:Pt)
def Sg.sp(s:Sg):Sp:=⟨s.a.id,s.a.fr,s.a.to,s.k,s.path.l.length-1,s.p0,s.p1⟩
def fS:Pt:=⟨0,0⟩
def j9(a:Ac)(l:List Pt):List Sp:=(List.range (l.length-1)).map fun k=>⟨a.id,a.fr,a.to,k,l.length-1,l.getD k fS,l.getD (k+1) fS⟩
def qg(l:List Pt):Bool:=(List.range (l.length-1)).any fun k=>dR (l.getD k fS) (l.getD (k+1) fS)
def lp(p:Pn)(a:Ac):Bool:=!cQ p a.id||((a.fr==a.to&&decide ((dW p a.id).length<4))||qg (dW p a.id))
def Nr(p:Pn):List Sp:=p.az.l.flatMap fun a=>j9 a (dW p a.id)
theorem GG{p:Pn}{x:Ac}(h:(x.fr==x.to)=true)(h4:(dW p x.id).length<4):lp p x=true:=by simp[lp,h,h4]
theorem QS{p:Pn}{x:Ac}(h:cQ p x.id=true)(h4:¬ (dW p x.id).length<4)(he:qg (dW p x.id)=false):lp p x=false:=by simp[lp,h,h4,he]
def ad8(p:Pn)(d id:Nat)(aa:aS)(r:dI×IV×aS):Prop:=(∃ b,r=(.r,.tuple [.nilsl,.bool b],aa)/\p.az.l.any (lp p)=!b/\(b=true->Nr p=[]))∨∃ l:List Sg,l≠[]/\l.length<=p.az.l.length*100/\(p.az.l.any (lp p)=false/\l.map Sg.sp=Nr p)/\r=(.a,.tuple [.slM d id 0 l.length l.length 2 false,.bool true],aa.set id (aH (l.flatMap Sg.g)))
variable {l:List Pt}{y:Pt}
section
theorem SH{l r:aS}{y w:aP}:(l++x::y::z::r).set (l.length+2) w=l++x::y::w::r:=by simp
def QE{l o:Nat}:(IV.ptrM l i o).cells=[.ptrM l i o]:=aI
def NW(a b:IV):rep [a,b] 1=[a,b]:=aI
theorem QF{lk:Nat->Nat->Option aP}{a:IV}{tight:Bool}:bW lk 2 (.slC [a,b] 1 2 tight)=some ([a,b],1):=by rfl
theorem Nq{x:Pt}(hx:l[k]?=some x)(hy:l[k+1]?=some y):(j9 a l).take (k+1)=(j9 a l).take k++[⟨a.id,a.fr,a.to,k,l.length-1,x,y⟩]:=by
 have hl:=(ew.1 hy).1;have e:(j9 a l)[k]?=some ⟨a.id,a.fr,a.to,k,l.length-1,x,y⟩:=by unfold j9;grind
 rw[jh,e];rfl
theorem Kk:(j9 a l).length=l.length-1:=by simp[j9]
theorem Mu{x:Pt}(hx:l[k]?=some x)(hy:l[k+1]?=some y)(h:dR x y=true):qg l=true:=by have hl:=(ew.1 hy).1;unfold qg;rw[Bj];exact⟨k,vU.2 Z,by grind⟩
def Mw(l:List Pt)(k:Nat):Prop:=∀ i,i<k->dR (l.getD i fS) (l.getD (i+1) fS)=false
theorem Mw.next{x:Pt}(h0:Mw l k)(hx:l[k]?=some x)(hy:l[k+1]?=some y)(h:dR x y=false):Mw l (k+1):=fun i hi=>by
 by_cases hk:i=k
 .grind
 .exact h0 i Z
theorem Mw.done(h0:Mw l k)(hk:l.length-1<=k):qg l=false:=by unfold qg;rw[ES];intro i hi;have:=vU.1 hi;rw[h0 i Z];simp
theorem Kt(hS:bk S)(p:Pn)(x:Ac)(q':aR 2 Pt.c){m D i:Nat}{ah:bq}(hm:q'.l.length+6<=m)(hq:2<=q'.l.length/\q'.l.length<=66){K:eU}(t:List IV)(J:aS)(lv:IV)(xs:List (Sg×Nat))(hO:bE (DX D) 2 D 1 J lv xs)(hL:jO J xs)(hxl:xs.length<=100000)
  (af:aN 67 t [(1,.ptrM D 0 0),(2,lv),(3,.bool false),(5,.ptrM D (J.length+1) 0),(6,q'.v),(11,p.az.v),(12,iv (p.az.l.length:Nat)),(13,iv i)])
  (hR:∀ t' O',qg q'.l=true->aN 67 t' [(2,.nilsl),(3,.bool false)]->K .ret ⟨t',O'⟩)
  (hK:∀ t' J' cH xs',bE (DX D) 2 D 1 J' cH xs'->jO J' xs'->xs'.length<=xs.length+66->(qg q'.l=false/\xs'.map (fun x=>x.1.sp)=xs.map (fun x=>x.1.sp)++j9 x q'.l)->aN 67 t' [(1,.ptrM D 0 0),(2,cH),(3,.bool false),(11,p.az.v),(12,iv (p.az.l.length:Nat)),(13,iv i)]->K .normal ⟨t',p.o::J'⟩) :
  Ex (aL aO S m) D ah m (i255.body.sub [1,0,1,0,0,1,1,0,0,1,1,1]) K ⟨t,p.o::(J++[aH [aB x.id,aB x.fr,aB x.to,x.via.v,aB x.l,aB x.r],.free])⟩:=by
 simp[za,zb,zf]at af
 have RZ:=q'.eZ
 simp[i255,IC.sub,V0,seval,af,SH,(oS:aT .i64 ((q'.l.length:Int)-1)=((q'.l.length-1:Nat):Int))]
 refine zm (q'.l.length-1) (fun k st=>∃(J2:aS)(qw:IV)(Xp:List (Sg×Nat)),bE (DX D) 2 D 1 J2 qw Xp/\jO J2 Xp/\(Xp.length<=xs.length+k/\Mw q'.l k/\Xp.map (fun x=>x.1.sp)=xs.map (fun x=>x.1.sp)++(j9 x q'.l).take k)/\J2[J.length+2]?=some (aH (b7 x q'))/\st.aa=p.o::J2/\aN 67 st.t [(1,.ptrM D 0 0),(2,qw),(3,.bool false),(6,q'.v),(8,.ptrM D (J.length+2+1) 0),(11,p.az.v),(12,iv (p.az.l.length:Nat)),(13,iv i),(44,iv (q'.l.length-1:Nat)),(45,iv k)]) Z ⟨_,lv,xs,hO.more _,hL.more,⟨Z,fun i hi=>absurd hi (zlq _),M⟩,ze5,rfl,by simp[V0,seval,af,cZ]⟩ ?_
 clear af
 rintro k ⟨t,bJ⟩ KB hk ⟨J2,qw,Xp,cL,hL2,⟨hx2,aez,hsp⟩,hln,rfl,af⟩ gJ jL kP
 simp[za,zb,zf]at af
 by_cases h:k<q'.l.length-1
 .have h0:k<q'.l.length:=Z
  have h1:k+1<q'.l.length:=Z
  obtain⟨y0,hx0⟩:=fc (l:=q'.l) (i:=k) h0
  obtain⟨y1,hx1⟩:=fc (l:=q'.l) (i:=k+1) h1
  have r0:bB (q'.l.flatMap Pt.c) (k*2) 2=some [aB y0.x,aB y0.y]:=(zd (sz:=2) (fun _=>rfl) 0 2 hx0 Z).trans rfl
  have r1:bB (q'.l.flatMap Pt.c) ((k+1)*2) 2=some [aB y1.x,aB y1.y]:=(zd (sz:=2) (fun _=>rfl) 0 2 hx1 Z).trans rfl
  have hw:=zt k
  have ag0:=hxl
  cases hq1:dR y0 y1
  .unfold dR at hq1
   obtain⟨e,lv3,J3,bz,I8,hkeep⟩:=zcg (Pre:=[p.o]) (n0:=J2.length+1) (slot:=0) (k:=0) (ah:=ah) (R:=[.free]) (JB D) cL (ys:=[(⟨x,q',k,h1⟩,J.length+2+1)]) M (by grind) (by grind) rfl rfl
   simp[gu,fP,eT,jm,DX,fB,gq,gF,eB]at bz
   simp only[V0,seval,zc q' h0,zc q' h1,zR,j4,QE,NW,zh,zl,zq,QF, *]
   have keep:∀(j:Nat)(z:aP),J2[j]?=some z->z≠aP.cells (Xp.flatMap (DX D))->J3[j]?=some z:=fun j z hj hz=>by grind
   have agy:=keep _ _ hln xJ
   refine gJ Z _ ⟨J3,lv3,_,I8,?_,⟨by grind,aez.next hx0 hx1 hq1,?_⟩,agy,rfl,bS⟩
   .intro sb hsb
    rcases qY.1 hsb with hsb|hsb
    .exact(hL2.keep keep) sb hsb
    grind
   .rw[Hi,hsp,mo,Nq hx0 hx1,mQ,tX,(show(⟨x,q',k,h1⟩:Sg).sp=⟨x.id,x.fr,x.to,k,q'.l.length-1,y0,y1⟩ by simp[Sg.sp,Sg.p0,Sg.p1,(show q'.l[k]'h0=y0 by grind),(show q'.l[k+1]'h1=y1 by grind)])]
  .unfold dR at hq1
   simp only[V0,seval,zc q' h0,zc q' h1,zR,j4, *]
   refine kP _ ?_
   exact hR _ _ (Mu hx0 hx1 hq1) bS
 .simp[V0,seval,af,h]
  refine jL _ _ ?_
  simp[V0,seval]
  exact hK _ _ _ _ cL hL2 Z ⟨aez.done Z,by rw[hsp,fT (by rw[Kk];omega)]⟩ bS
theorem UN(hS:bk S)(p:Pn)(hv:∀ a∈p.az.l,a.via.l.length<=64)(ha:p.az.l.length<=1000):∃ N,∀ m,N<=m->∀ d ah aJ aa id,aa[id]?=some .free->∃ r,aL aO S m d ah aJ aa id 255 [.agg p.c]=some r/\ad8 p d id aa r:=by
 have acm:∀ id,(gM p id).via.l.length<=64:=fun id=>by
  unfold gM;cases hf:mX p id with
  |none=>decide
  |some a=>exact hv a (zkc hf)
 have O7:∀ a∈p.az.l,∃ N,∀ m,N<=m->∃ q':aR 2 Pt.c,(cQ p a.id=true->q'.l=dW p a.id)/\∀ d ah aJ aa id,aL aO S m d ah aJ aa id 189 [.agg p.c,iv a.id]=some (.r,.tuple [q'.v,iv (bif cQ p a.id then 0 else 7)],aa):=fun a _=>by let⟨q',h1,N,h2⟩:=Il hS p a.id (fun a h=>by grind);exact⟨N,fun m hm=>⟨q',h1,h2 m hm⟩⟩
 let⟨Np,hNp⟩:=ED p.az.l O7;refine⟨Np+p.az.l.length+100,fun m hm d ah aJ aa id hid=>?_⟩;obtain⟨m,rfl⟩:=gv m 1;refine zF (i:=i255) (hS _ _ M M M M) rfl Δ (bP rfl) fun t af=>?_;simp[slotsOf,za,zb,i255,Pn.c]at af;generalize(fun l=>if l=d then aJ else ah l:bq)=bH
 obtain⟨m,rfl⟩:=gv m 6;have hnil:∀(o:aS)(b:Bool),leave (m+6) d o aa id 1 (.tuple [.nilsl,.bool b])=some (.r,.tuple [.nilsl,.bool b],aa):=fun o b=>by rfl
 have MR:=p.az.eZ;have hT0:=fun(x:Ac)(q':aR 2 Pt.c){i:Nat}=>@Kt S hS p x q' (m+6) (d+1) i bH;rw[show i255.body=.seq (i255.body.sub [0]) (.seq (.seq (i255.body.sub [1,0,0]) (.block 0 (.loop (.seq (i255.body.sub [1,0,1,0,0,0]) (.seq (i255.body.sub [1,0,1,0,0,1,0]) (.seq (.block 1 (.seq (i255.body.sub [1,0,1,0,0,1,1,0,0,0]) (.seq (i255.body.sub [1,0,1,0,0,1,1,0,0,1,0]) (.seq (i255.body.sub [1,0,1,0,0,1,1,0,0,1,1,0]) (i255.body.sub [1,0,1,0,0,1,1,0,0,1,1,1]))))) (i255.body.sub [1,0,1,0,0,1,1,1]))))))) (i255.body.sub [1,1]))from rfl];generalize i255.body.sub [1,0,1,0,0,1,1,0,0,1,1,1]=T at hT0 ⊢;simp only[i255,IC.sub,V0,seval,af];refine zm p.az.l.length (fun i st=>∃(J:aS)(lv:IV)(xs:List (Sg×Nat)),bE (DX (d+1)) 2 (d+1) 1 J lv xs/\jO J xs/\(xs.length<=i*100/\((p.az.l.take i).any (lp p)=false/\xs.map (fun x=>x.1.sp)=(p.az.l.take i).flatMap fun a=>j9 a (dW p a.id)))/\st.aa=p.o::J/\aN 67 st.t [(1,.ptrM (d+1) 0 0),(2,lv),(3,.bool false),(11,p.az.v),(12,iv (p.az.l.length:Nat)),(13,iv i)]) Z ⟨[],.nilsl,[],.inl ⟨rfl,rfl⟩,fun _ h=>by grind,⟨M,M⟩,rfl,by simp[V0,seval,af,cZ]⟩ ?_;clear af;rintro i ⟨t,bJ⟩ KA hi ⟨J,lv,xs,hO,hL,⟨hx1,hbd,hsp⟩,rfl,af⟩ bp bK bQ;simp[za,zb,zf]at af;by_cases h:i<p.az.l.length
 .have hx:p.az.l[i]?=some p.az.l[i]:=dw h;let⟨q',hq1,lQ⟩:=hNp _ (gQ h) (m+6) Z;have hmx:p.az.l[i]∈p.az.l:=gQ h;generalize p.az.l[i]=x at hx hq1 lQ hmx;have tN:lp p x=true->p.az.l.any (lp p)=!false:=fun hb=>Bj.2 ⟨x,hmx,hb⟩;have hstep:lp p x=false->(p.az.l.take (i+1)).any (lp p)=false:=fun hb=>by rw[jh,hx,oP,Vs,hbd];grind
  have aex:(p.az.l.take (i+1)).flatMap (fun a=>j9 a (dW p a.id))=(p.az.l.take i).flatMap (fun a=>j9 a (dW p a.id))++j9 x (dW p x.id):=by rw[jh,hx,oP,Bh];simp
  have hrd:bB (p.az.l.flatMap Ac.c) (i*6) 6=some [aB x.id,aB x.fr,aB x.to,x.via.v,aB x.l,aB x.r]:=xa9;have hw:=zt i;simp[zf,Pn.c]at lQ;have iS:∀ z:Int,(z != 0)=!(z==0):=fun z=>rfl;cases hp:cQ p x.id
  .simp[hp,bT]at lQ;simp only[V0,seval,af,h,zc p.az h,hrd,lQ,iS,(show(((7:Int))==0)=false by rfl)];refine bQ _ ?_;simp only[V0,seval,af];exact⟨M,_,_,rfl,hnil _ _,.inl ⟨false,rfl,tN (by simp[lp,hp]),fun h=>by grind⟩⟩
  .have Wu:(((0:Int))==0)=true:=by rfl
   simp[hp,bV]at lQ;have pz:=hq1 hp;have Lg:2<=q'.l.length/\q'.l.length<=66:=by rw[pz];have:=acm x.id;simp[dW];omega
   have hT:=fun{i:Nat}=>@hT0 x q' i;cases hft:x.fr==x.to
   .simp only[V0,seval,af,h,zc p.az h,hrd,lQ,iS,Wu,hft];refine hT (i:=i) Z Lg _ J lv xs hO hL Z bS (fun t' O' Pr ht'=>?_) (fun t' J' cH xs' uY hL' hx' Pr ht'=>?_)
    .exact xbi
    .simp[za,zb,zf]at ht';simp only[V0,seval,ht',hw];exact bp Z _ ⟨J',cH,xs',uY,hL',⟨Z,hstep (by rw[pz]at Pr;simp[lp,hp,hft,Pr.1]),by grind⟩,rfl,bS⟩
   .by_cases h4:(q'.l.length:Int)<4
    .simp only[V0,seval,af,h,zc p.az h,hrd,lQ,iS,Wu,hft,h4];refine bQ _ ?_;simp only[V0,seval,af];exact⟨M,_,_,rfl,hnil _ _,.inl ⟨false,rfl,tN (GG hft (by grind)),fun h=>by grind⟩⟩
    .simp only[V0,seval,af,h,zc p.az h,hrd,lQ,iS,Wu,hft,h4];refine hT (i:=i) Z Lg _ J lv xs hO hL Z bS (fun t' O' Pr ht'=>?_) (fun t' J' cH xs' uY hL' hx' Pr ht'=>?_)
     .exact xbi
     .simp[za,zb,zf]at ht';simp only[V0,seval,ht',hw];exact bp Z _ ⟨J',cH,xs',uY,hL',⟨Z,hstep (by rw[pz]at h4 Pr;exact QS hp Z Pr.1),by grind⟩,rfl,bS⟩
 .simp[V0,seval,af,h];refine bK _ _ ?_;have cL:=hO;rw[(fT Z)]at hbd hsp;rcases hO with⟨rfl,rfl⟩|⟨b,hne,rfl,hb⟩
  .simp only[V0,seval,af];exact⟨M,_,_,rfl,hnil _ _,.inl ⟨true,rfl,hbd,fun _=>hsp.symm⟩⟩
  .simp only[V0,seval,af];refine⟨M,_,_,rfl,?_,.inr ⟨xs.map Prod.fst,by simp[*],?_,⟨hbd,by rw[MV];exact hsp⟩,rfl⟩⟩
   .have iN:∀ sb∈xs,(p.o::J)[sb.2]?=some (aH (b7 sb.1.a sb.1.path)):=fun sb hs=>by let⟨g1,g2⟩:=hL sb hs;grind
    have:=FM (n:=m+6) (b:=true) Z (show(p.o::J)[1+b]?=some (aH (xs.flatMap (DX (d+1)))) by grind) iN hid;grind
   grind
end
section
variable {B:aS} {c:Nat} {w:aP} {vis:List Nat}
theorem Za:(B++(R++Q))[B.length+(R.length+j)]?=Q[j]?:=by grind
def yf:(B++(R++Q))[B.length+R.length]?=Q[0]?:=Za (j:=0)
theorem Zn:(B++(R++Q)).set (B.length+(R.length+j)) w=B++(R++Q.set j w):=by simp
def yr:(B++(R++Q)).set (B.length+R.length) w=B++(R++Q.set 0 w):=Zn (j:=0)
theorem Zs(h:j<c):(bI vis (B.length+(R.length+c)) (B++(R++Q)))[B.length+(R.length+j)]?=Q[j]?:=by rw[zu,Za,decide_eq_true (show B.length+(R.length+j)<B.length+(R.length+c) by omega)];simp
def yD(h:0<c):(bI vis (B.length+(R.length+c)) (B++(R++Q)))[B.length+R.length]?=Q[0]?:=Zs (j:=0) h
theorem VA(h:B[i]?=some x):(B++R)[i]?=some x:=by grind
theorem QT(h:B[i]?=some x):(bI vis (B.length+c) (B++R))[i]?=some x:=by have hl:=(ew.1 h).1;rw[zu,VA h,decide_eq_true (show i<B.length+c by omega)];simp
end
def iL(s:Sp)(x:Nd):Bool:=mz s.A s.B x.at'&&(!((s.k:Int)==0&&s.fr==x.id)&&!((s.k:Int)==((s.n-1:Nat):Int)&&s.to==x.id))
theorem Oi(hS:bk S)(p:Pn)(s:Sg){m D si:Nat}{ah:bq}(hm:p.ns.l.length+20<=m){K:eU}(t:List IV)(B R:aS)(lv mp qw nn ii:IV)(h0:B[0]?=some (p.o))(hsi:B[si]?=some (aH s.g))
  (af:aN 117 t [(1,.ptrM D 0 0),(9,.ptrM D si 0),(3,lv),(5,mp),(39,qw),(40,nn),(41,ii)])
  (hR:∀ t' O',(∃ x∈p.ns.l,iL s.sp x=true)->aN 117 t' [(2,.bool false)]->K .ret ⟨t',O'⟩)
  (hK:∀ t' R',(∀ x∈p.ns.l,iL s.sp x=false)->aN 117 t' [(1,.ptrM D 0 0),(3,lv),(5,mp),(39,qw),(40,nn),(41,ii)]->K .normal ⟨t',B++R'⟩) :
  Ex (aL aO S m) D ah m (i229.body.sub [1,1,1,1,1,1,0,1,0,0,1,1,0,0,1,1]) K ⟨t,B++R⟩:=by
 simp[za,zb]at af
 have hnf:=p.ns.eZ
 simp[Sg.g,b7]at hsi
 have gs:∀ R,(B++R)[si]?=some (aH [.ptrC [aB s.a.id,aB s.a.fr,aB s.a.to,s.a.via.v,aB s.a.l,aB s.a.r,s.path.v] 0,aB (s.k:Int)]):=fun R=>VA hsi
 have gh:∀ vis c R,(bI vis (B.length+c) (B++R))[si]?=some (aH [.ptrC [aB s.a.id,aB s.a.fr,aB s.a.to,s.a.via.v,aB s.a.l,aB s.a.r,s.path.v] 0,aB (s.k:Int)]):=fun vis c R=>QT hsi
 have ce:=zbk hS s m Z
 have cf:=DZ hS s m Z
 have cl:=JE hS s m Z
 have co:∀(u v w:Pt) d ah aJ aa i,aL aO S m d ah aJ aa i 263 [.agg [aB u.x,aB u.y],.agg [aB v.x,aB v.y],.agg [aB w.x,aB w.y]]=some (.r,.bool (mz u v w),aa):=fun u v w d ah aJ aa i=>JD hS u v w m Z d ah aJ aa i
 simp[Sg.g,b7,Pt.c,zf]at ce cf cl
 simp[i229,IC.sub,V0,seval,af,(fun R=>VA h0:∀ R,(B++R)[0]?=some (p.o))]
 refine zn (fun jj st=>∃(k:Nat)(R:aS),p.ns.l.length-k<=jj/\(k<=p.ns.l.length/\∀ i x,i<k->p.ns.l[i]?=some x->iL s.sp x=false)/\st.aa=B++R/\aN 117 st.t [(1,.ptrM D 0 0),(9,.ptrM D si 0),(3,lv),(5,mp),(39,qw),(40,nn),(41,ii),(67,p.ns.v),(68,iv (p.ns.l.length:Nat)),(69,iv k)]) p.ns.l.length Z ⟨0,_,Z,⟨Z,fun i x h=>absurd h (zlq _)⟩,rfl,by simp[V0,seval,af,cZ]⟩ ?_
 clear af
 rintro jj ⟨t,bJ⟩ KB ⟨k,R,hjj,⟨hk,hbd⟩,rfl,af⟩ gJ jL kP
 simp[za,zb,zf]at af
 by_cases h:k<p.ns.l.length
 .obtain⟨x,hx⟩:=fc (l:=p.ns.l) (i:=k) h
  have hrd:bB (p.ns.l.flatMap Nd.c) (k*3) 3=some [aB x.id,aB x.at'.x,aB x.at'.y]:=xcn
  have hw:=zt k
  have hm:x∈p.ns.l:=og hx
  have hst:iL s.sp x=false->∀ i y,i<k+1->p.ns.l[i]?=some y->iL s.sp y=false:=fun hb i y hi hy=>by grind
  have hn1:s.path.l.length-1-1=s.path.l.length-2:=Z
  cases o:mz s.p0 s.p1 x.at'
  .skip
   simp only[V0,seval,tq,Za,yf,Zn,yr,zc p.ns h,Zs,yD, *]
   exact gJ _ (p.ns.l.length-(k+1)) Z ⟨k+1,_,Z,⟨Z,hst (by simp[iL,Sg.sp,hn1,o])⟩,rfl,bS⟩
  .cases f:(s.k:Int)==0
   .skip
    cases l:(s.k:Int)==((s.path.l.length-2:Nat):Int)
    .skip
     simp only[V0,seval,tq,Za,yf,Zn,yr,zc p.ns h,Zs,yD, *]
     refine kP _ ?_
     exact hR _ _ ⟨x,hm,by simp[iL,Sg.sp,hn1,o,f,l]⟩ bS
    .cases e2:s.a.to==x.id
     .skip
      simp only[V0,seval,tq,Za,yf,Zn,yr,zc p.ns h,Zs,yD, *]
      refine kP _ ?_
      exact hR _ _ ⟨x,hm,by simp[iL,Sg.sp,hn1,o,f,l,e2]⟩ bS
     .skip
      simp only[V0,seval,tq,Za,yf,Zn,yr,zc p.ns h,Zs,yD, *]
      exact gJ _ (p.ns.l.length-(k+1)) Z ⟨k+1,_,Z,⟨Z,hst (by simp[iL,Sg.sp,hn1,o,f,l,e2])⟩,rfl,bS⟩
   .cases e1:s.a.fr==x.id
    .skip
     cases l:(s.k:Int)==((s.path.l.length-2:Nat):Int)
     .skip
      simp only[V0,seval,tq,Za,yf,Zn,yr,zc p.ns h,Zs,yD, *]
      refine kP _ ?_
      exact hR _ _ ⟨x,hm,by simp[iL,Sg.sp,hn1,o,f,e1,l]⟩ bS
     .cases e2:s.a.to==x.id
      .skip
       simp only[V0,seval,tq,Za,yf,Zn,yr,zc p.ns h,Zs,yD, *]
       refine kP _ ?_
       exact hR _ _ ⟨x,hm,by simp[iL,Sg.sp,hn1,o,f,e1,l,e2]⟩ bS
      .skip
       simp only[V0,seval,tq,Za,yf,Zn,yr,zc p.ns h,Zs,yD, *]
       exact gJ _ (p.ns.l.length-(k+1)) Z ⟨k+1,_,Z,⟨Z,hst (by simp[iL,Sg.sp,hn1,o,f,e1,l,e2])⟩,rfl,bS⟩
    .skip
     simp only[V0,seval,tq,Za,yf,Zn,yr,zc p.ns h,Zs,yD, *]
     exact gJ _ (p.ns.l.length-(k+1)) Z ⟨k+1,_,Z,⟨Z,hst (by simp[iL,Sg.sp,hn1,o,f,e1])⟩,rfl,bS⟩
 .simp[V0,seval,af,h]
  refine jL _ _ ?_
  simp[V0,seval]
  exact hK _ _ (fun x hx=>by
   let⟨i,hi⟩:=rj hx;grind) (by simp [V0,sevalprocAttr,tq,Za,yf,Zn,yr,af])
theorem E9{D:Nat}(h:i+1<=n)(t:List IV)(x:bD)(hx:ρ t x=aB ((i+1:Nat):Int)):dA 2 t (.slM D 1 0 n n 2 false) (some x) none none=some (.slM D 1 ((i+1)*2) (n-(i+1)) (n-(i+1)) 2 false):=by simp only[dA,kI,hx,zY];grind
def A6(L:List (Int×Pt))(l:List Sg)(i:Nat)(s:Sg):Prop:=∀ j u,i<j->l[j]?=some u->mj L s u=true∨∃ j' u',i<j'/\j'<=j/\l[j']?=some u'/\s.ea<u'.w
def JP(L:List (Int×Pt))(l:List Sg)(i:Nat)(s:Sg):Prop:=∃ j u,i<j/\l[j]?=some u/\mj L s u=false
theorem Oh(hS:bk S)(p:Pn)(l:List Sg)(s:Sg)(L:List (Int×Pt))(bs:List Nat)(ck:Nat){m D si i:Nat}{ah:bq}(hm:l.length+30<=m)(hl:l.length<65536)(hi:i<l.length){K:eU}(t:List IV)(B R:aS)(qw nn ii:IV)(h1:B[1]?=some (aH (l.flatMap Sg.g)))(h2:B[2]?=some (.map (dO L) (dU L) bs ck))(hsi:B[si]?=some (aH s.g))
  (af:aN 117 t [(1,.ptrM D 0 0),(8,iv i),(9,.ptrM D si 0),(3,.slM D 1 0 l.length l.length 2 false),(5,.mapM D 2),(39,qw),(40,nn),(41,ii)])
  (hR:∀ t' O',JP L l i s->aN 117 t' [(2,.bool false)]->K .ret ⟨t',O'⟩)
  (hK:∀ t' R',A6 L l i s->aN 117 t' [(1,.ptrM D 0 0),(9,.ptrM D si 0),(3,.slM D 1 0 l.length l.length 2 false),(5,.mapM D 2),(39,qw),(40,nn),(41,ii)]->K .normal ⟨t',B++R'⟩) :
  Ex (aL aO S m) D ah m (i229.body.sub [1,1,1,1,1,1,0,1,0,0,1,1,0,0,1,0]) K ⟨t,B++R⟩:=by
 simp[za,zb,zf]at af
 have c3:∀(u:Sg) R aa id,aL aO S m D ah (B++R) aa id 261 [.agg s.g,.agg u.g,.mapM D 2]=some (.r,.bool (mj L s u),aa):=fun u R aa id=>U1 hS s u L (bs:=bs) (ck:=ck) Z (VA h2)
 simp[Sg.g,b7]at hsi c3
 have g1:∀ R,(B++R)[1]?=some (aH (l.flatMap Sg.g)):=fun R=>VA h1
 have gs:∀ R,(B++R)[si]?=some (aH [.ptrC [aB s.a.id,aB s.a.fr,aB s.a.to,s.a.via.v,aB s.a.l,aB s.a.r,s.path.v] 0,aB (s.k:Int)]):=fun R=>VA hsi
 have gh:∀ vis c R,(bI vis (B.length+c) (B++R))[si]?=some (aH [.ptrC [aB s.a.id,aB s.a.fr,aB s.a.to,s.a.via.v,aB s.a.l,aB s.a.r,s.path.v] 0,aB (s.k:Int)]):=fun vis c R=>QT hsi
 have cw:=fun(u:Sg) d ah aJ aa i=>AI hS u m Z d ah aJ aa i
 have cea:=UX hS s m Z
 simp[Sg.g,b7]at cw cea
 simp only[i229,IC.sub,V0,seval,af,(zt i),yM,(E9 (D:=D) (n:=l.length) (i:=i) Z)]
 refine zn (fun jj st=>∃(k:Nat)(R:aS),l.length-(i+1)-k<=jj/\(k<=l.length-(i+1)/\∀ j u,i<j->j<i+1+k->l[j]?=some u->mj L s u=true)/\st.aa=B++R/\aN 117 st.t [(1,.ptrM D 0 0),(9,.ptrM D si 0),(3,.slM D 1 0 l.length l.length 2 false),(5,.mapM D 2),(39,qw),(40,nn),(41,ii),(49,.slM D 1 ((i+1)*2) (l.length-(i+1)) (l.length-(i+1)) 2 false),(50,iv (l.length-(i+1):Nat)),(51,iv k)]) (l.length-(i+1)) Z ⟨0,_,Z,⟨Z,fun j u h1 h2=>absurd h2 Z⟩,rfl,by simp[V0,seval,af,cZ]⟩ ?_
 clear af
 rintro jj ⟨t,bJ⟩ KB ⟨k,R,hjj,⟨hk,hok⟩,rfl,af⟩ gJ jL kP
 simp[za,zb,zf]at af
 by_cases h:k<l.length-(i+1)
 .have hx:l[i+1+k]?=some (l[i+1+k]'Z):=dw Z
  generalize l[i+1+k]'Z=u at hx
  have ldu:(bB (l.flatMap Sg.g) ((i+1)*2+k*2) 2).bind (ql true)=some (.agg [.ptrC [aB u.a.id,aB u.a.fr,aB u.a.to,u.a.via.v,aB u.a.l,aB u.a.r,u.path.v] 0,aB (u.k:Int)]):=by have:=Fe.ld hx;rw[JW]at this;exact this
  have hw:=zt k
  have ccu:=c3 u
  by_cases hgt:s.ea<u.w
  .simp only[V0,seval,yf,yr,af,h,zo,g1,ldu]
   simp[V0,seval,tq,yD,ez, *]
   refine jL _ _ ?_
   simp[V0,seval]
   exact hK _ _ (fun j v h1 hv=>by
    grind) (by simp [V0,sevalprocAttr,tq,Za,yf,Zn,yr,af,ez,hgt,(cw u),cea])
  .cases hcb:mj L s u
   .simp only[V0,seval,yf,yr,af,h,zo,g1,ldu]
    simp[V0,seval,tq,yD,ez,yf, *]
    refine kP _ ?_
    exact hR _ _ ⟨i+1+k,u,Z,hx,hcb⟩ bS
   .simp only[V0,seval,yf,yr,af,h,zo,g1,ldu]
    simp only[V0,seval,tq,yD,ez,yf, *]
    exact gJ _ (l.length - (i+1) - (k+1)) Z ⟨k+1,_,Z,⟨Z,fun j v h1 h2 hv=>by
     grind⟩,rfl,by simp [V0,sevalprocAttr,tq,Za,yf,Zn,yr, *]⟩
 .simp[V0,seval,af,h]
  refine jL _ _ ?_
  simp[V0,seval]
  exact hK _ _ (fun j v h1 hv=>.inl (hok j v h1 (by grind) hv)) bS
def WX(p:Pn)(L:List (Int×Pt))(l:List Sg)(v:Bool):Prop:=(v=true->∀ i s,l[i]?=some s->A6 L l i s/\∀ x∈p.ns.l,iL s.sp x=false)/\(v=false->∃ i s,l[i]?=some s/\(JP L l i s∨∃ x∈p.ns.l,iL s.sp x=true))
theorem Tm(hS:bk S)(p:Pn)(l:List Sg)(L:List (Int×Pt))(bs:List Nat)(ck:Nat){m D:Nat}{ah:bq}(hm:l.length+p.ns.l.length+50<=m)(hl:l.length<65536){K:eU}(t:List IV)(B R:aS)(h0:B[0]?=some (p.o))(h1:B[1]?=some (aH (l.flatMap Sg.g)))(h2:B[2]?=some (.map (dO L) (dU L) bs ck))
  (af:aN 117 t [(1,.ptrM D 0 0),(3,.slM D 1 0 l.length l.length 2 false),(5,.mapM D 2)])
  (hF:∀ v t' O',WX p L l v->aN 117 t' [(2,.bool v)]->K .ret ⟨t',O'⟩) :
  Ex (aL aO S m) D ah m (i229.body.sub [1,1,1,1,1,1]) K ⟨t,B++R⟩:=by
 simp[za,zb]at af
 have hP1:=fun(s:Sg){si i:Nat}=>@Oh S hS p l s L bs ck m D si i ah Z hl
 have hP2:=fun(s:Sg){si:Nat}=>@Oi S hS p s m D si ah Z
 rw[show i229.body.sub [1,1,1,1,1,1]=.seq (.seq (i229.body.sub [1,1,1,1,1,1,0,0]) (.block 2 (.loop (.seq (i229.body.sub [1,1,1,1,1,1,0,1,0,0,0]) (.seq (i229.body.sub [1,1,1,1,1,1,0,1,0,0,1,0]) (.seq (.block 3 (.seq (i229.body.sub [1,1,1,1,1,1,0,1,0,0,1,1,0,0,0]) (.seq (i229.body.sub [1,1,1,1,1,1,0,1,0,0,1,1,0,0,1,0]) (i229.body.sub [1,1,1,1,1,1,0,1,0,0,1,1,0,0,1,1])))) (i229.body.sub [1,1,1,1,1,1,0,1,0,0,1,1,1]))))))) (i229.body.sub [1,1,1,1,1,1,1])from rfl]
 generalize i229.body.sub [1,1,1,1,1,1,0,1,0,0,1,1,0,0,1,0]=T1 at hP1 ⊢
 generalize i229.body.sub [1,1,1,1,1,1,0,1,0,0,1,1,0,0,1,1]=T2 at hP2 ⊢
 simp[i229,IC.sub,V0,seval,af]
 refine zn (fun jj st=>∃(i:Nat)(R:aS),l.length-i<=jj/\(i<=l.length/\∀ j u,j<i->l[j]?=some u->A6 L l j u/\∀ x∈p.ns.l,iL u.sp x=false)/\st.aa=B++R/\aN 117 st.t [(1,.ptrM D 0 0),(3,.slM D 1 0 l.length l.length 2 false),(5,.mapM D 2),(39,.slM D 1 0 l.length l.length 2 false),(40,iv (l.length:Nat)),(41,iv i)]) l.length Z ⟨0,_,Z,⟨Z,fun j u h=>absurd h (zlq _)⟩,rfl,by simp[V0,seval,af,cZ]⟩ ?_
 clear af
 rintro jj ⟨t,bJ⟩ KB ⟨i,R,hjj,⟨hi,hok⟩,rfl,af⟩ gJ jL kP
 simp[za,zb,zf]at af
 by_cases h:i<l.length
 .obtain⟨s,hx⟩:=fc (l:=l) (i:=i) h
  have lds:(bB (l.flatMap Sg.g) (i*2) 2).bind (ql true)=some (.agg [.ptrC [aB s.a.id,aB s.a.fr,aB s.a.to,s.a.via.v,aB s.a.l,aB s.a.r,s.path.v] 0,aB (s.k:Int)]):=Fe.ld hx
  have hB1:∀ j x,B[j]?=some x->(B++(R++[aH s.g]))[j]?=some x:=fun j x h=>VA h
  have hBs:(B++(R++[aH s.g]))[B.length+R.length]?=some (aH s.g):=by simp
  simp[V0,seval,yf,yr,af,h,zo,(fun R=>VA h1),lds]
  rw[(show(B++(R++[aP.cells [.ptrC [aB s.a.id,aB s.a.fr,aB s.a.to,s.a.via.v,aB s.a.l,aB s.a.r,s.path.v] 0,aB (s.k:Int)]]))=(B++(R++[aH s.g]))++[] by rw[gF];rfl)]
  refine hP1 s h _ _ [] (.slM D 1 0 l.length l.length 2 false) (aB (l.length:Nat)) (aB (i:Nat)) (hB1 1 _ h1) (hB1 2 _ h2) hBs bS (fun t' O' hbd ht=>?_) fun t' R1 hpk ht=>?_
  .simp[za,zb]at ht
   simp[V0,seval]
   refine kP _ ?_
   simp[V0,seval]
   exact hF false _ _ ⟨fun h=>by grind,fun _=>⟨i,s,hx,.inl hbd⟩⟩ bS
  .rw[yA]
   refine hP2 s _ _ R1 (.slM D 1 0 l.length l.length 2 false) (.mapM D 2) (.slM D 1 0 l.length l.length 2 false) (aB (l.length:Nat)) (aB (i:Nat)) (hB1 0 _ h0) hBs Z (fun t' O' hnb ht=>?_) fun t' R2 hnk ht=>?_
   .simp[za,zb]at ht
    simp[V0,seval]
    refine kP _ ?_
    simp[V0,seval]
    exact hF false _ _ ⟨fun h=>by grind,fun _=>⟨i,s,hx,.inr hnb⟩⟩ bS
   .simp[za,zb]at ht
    simp only[V0,seval,ht,(zt i)]
    exact gJ _ (l.length - (i+1)) Z ⟨i+1,R++(aH s.g::R2),Z,⟨Z,fun j u hj hu=>by
     grind⟩,by rfl,bS⟩
 .simp[V0,seval,af,h]
  refine jL _ _ ?_
  simp[V0,seval]
  exact hF true _ _ ⟨fun _ j u hu=>hok j u (by grind) hu,fun h=>by grind⟩ bS
theorem XV{m D:Nat}{ah:bq}(hm:2<=m){K:eU}(t:List IV)(aa:aS)(af:aN 117 t [(3,.nilsl)])(hF:∀ t' O',aN 117 t' [(2,.bool true)]->K .ret ⟨t',O'⟩) :
  Ex (aL aO S m) D ah m (i229.body.sub [1,1,1,1,1,1]) K ⟨t,aa⟩:=by
 simp[za,zb]at af
 simp[i229,IC.sub,V0,seval,af]
 refine zn (fun jj st=>aN 117 st.t [(40,aB 0),(41,aB 0)]) 0 Z bS ?_
 clear af
 rintro jj ⟨t,bJ⟩ KB af gJ jL kP
 dsimp only at af
 simp[za,zb]at af
 simp[V0,seval,af,(eq_false M:((0:Int)<0)=False)]
 refine jL _ _ ?_
 simp[V0,seval]
 exact hF _ _ bS
end
variable {H:Type}{r:H->H->Int}
section
def up(r:H->H->Int)(x y:H):Prop:=¬ r y x<0
structure Orders(r:H->H->Int):Prop where
 total:∀ x y,up r x y∨up r y x
 trans:∀ x y z,up r x y->up r y z->up r x z
def Srt(r:H->H->Int)(xs:List H)(a c:Nat):Prop:=∀ i j x y,a<=i->i<j->j<c->xs[i]?=some x->xs[j]?=some y->up r x y
end
section
open Go Go.RowKit
theorem zbl{H I:Type}{f:H->Option I}{g:H->I}:∀{l:List H},(∀ x∈l,f x=some (g x))->l.mapM f=some (l.map g)
 |[],_=>rfl
 |x::l,h=>by rw[mq,h x (qj ..),zbl fun y hy=>h y (tj _ hy)];rfl
theorem vY:∀(xs c p:List IV),xs.length=c.length->dS (p++c) p.length xs=p++xs
 |[],[],p,_=>rfl
 |x::xs,y::c,p,h=>by have:=vY xs c (p++[x]) (by grind);unfold dS;grind
variable {cp d i n sz:Nat}{tg:Bool}
theorem BP{aa:aS}{c:List IV}(h:aa[i]?=some (aH c))(hc:c.length=n*sz)(hs:c.all IV.scalar=true)(h0:n≠0)(hn:n<=bound):nA d aa sz (.slM d i 0 n cp sz tg)=some (i,0,c,c,n):=by
 show(if d=d/\sz=sz/\n≠0/\n<=bound then _ else _)=_
 rw[bU ⟨rfl,rfl,h0,hn⟩,h];show(seg c 0 (n*sz)).bind _=_;unfold seg;rw[bU Z,zi,s7,fT Z,iD,bU hs]
theorem UH(z:Int):nF.Int.blt' z=decide (z<0):=by cases z<;>simp[nF.Int.blt']<;>omega
variable {H:Type}{Nc b kd m:Nat}{S:bX}{aJ cB:aS}{ah:bq}{caps:List IV}{f gf:FuncId}{fv:IV}{r:H->H->Int}
section
variable {g:H->List IV} {e:H->IV} 
theorem KI(h:nU cB b aJ):nU cB b (aJ.set b .gone):=fun j h1 h2=>by rw[EV (Se h2)];exact h j h1 h2
theorem PK(hg:∀ x,(g x).length=sz){xs:List H}{j:Nat}{x:H}(hx:xs[j]?=some x):rowAt (xs.flatMap g) sz j=g x:=by
 unfold rowAt;induction xs generalizing j with
 |nil=>grind
 |cons a l ih =>
  rw[eT]
  cases j with
  |zero =>
   grind
  |succ j =>
   rw[znx,Nat.add_comm,←W4,List.drop_append_of_le_length (by grind),show List.drop sz (g a)=[]from Sj (by grind),fP]
   grind
theorem Hl{ag:Bool}(s8:Orders r)(hS:∀ args,S f args=none)(hi:aO f=some ⟨sz,[],.skip,kd⟩)(hkd:kd=4/\ag=false∨kd=5/\ag=true)(hz:0<sz)(hb:b<cB.length)(hE:MB g e sz ag)(hc:Eu S Nc d ah cB b e gf caps r)(hn:n<65536)(h0:n≠0)(m:Nat)(hm:Nc+1<=m)
  (aJ:aS) (xs:List H) (J:aS) (hV:nU cB b aJ) (hl0:xs.length=n) :
  ∃ xs':List H,(∀ id,aL aO S m d ah aJ (Bk cB b (xs.flatMap g)++J) id f [.slM d b 0 n cp sz tg,.fn gf [] caps]=some (.x,.tuple [],Bk cB b (xs'.flatMap g)++J))/\xs'.Perm xs/\Srt r xs' 0 n:=by
 obtain⟨m,rfl⟩:∃ q,m=q+1:=⟨m-1,Z⟩
 let⟨z0,hz0⟩:∃ z,xs[0]?=some z:=⟨_,dw Z⟩
 have R6:∀ j,j<n->xs[j]?=some (xs.getD j z0):=fun j hj=>by grind
 have hlen:(xs.flatMap g).length=n*sz:=by rw[zj hE.len,hl0]
 have hrow:∀ j,j<n->rowAt (xs.flatMap g) sz j=g (xs.getD j z0):=fun j hj=>PK hE.len (R6 j hj)
 have hel:∀ j,j<n->ko kd (rowAt (xs.flatMap g) sz j)=e (xs.getD j z0):=fun j hj=>by
  rw[hrow j hj];have hv:=hE.val (xs.getD j z0);unfold ko;rcases hkd with⟨rfl,rfl⟩|⟨rfl,rfl⟩
  .unfold ql at hv;grind
  .unfold ql at hv;grind
 have hcmp:∀(aa:aS)(id:Nat)(x y:H),AB (aL aO S m) d ah (aJ.set b .gone) aa id gf caps (e x) (e y)=some (r x y):=fun aa id x y=>by unfold AB;rw[hc m Z (aJ.set b .gone) aa id x y (KI hV)]
 have htb:∀(aa:aS)(id:Nat),(((List.range n).map fun j=>ko kd (rowAt (xs.flatMap g) sz j)).mapM fun x=>((List.range n).map fun j=>ko kd (rowAt (xs.flatMap g) sz j)).mapM fun y=>AB (aL aO S m) d ah (aJ.set b .gone) aa id gf caps x y)=some ((List.range n).map fun i=>(List.range n).map fun j=>r (xs.getD i z0) (xs.getD j z0)):=fun aa id=>by rw[(zm5 fun j hj=>hel j (vU.1 hj)),zn3];refine zbl fun i _=>?_;show List.mapM _ _=_;rw[zn3];exact zbl fun j _=>hcmp aa id _ _
 generalize agi:((List.range n).map fun i=>(List.range n).map fun j=>r (xs.getD i z0) (xs.getD j z0))=tb at htb
 have au:∀ i j,i<n->j<n->nF n tb i j=decide (r (xs.getD i z0) (xs.getD j z0)<0):=fun i j hi hj=>by unfold nF;rw[M0 hi,M0 hj,←agi,UH];grind
 have hsw:Bu n (nF n tb)=true:=by unfold Bu;rw[nu];intro i hi;rw[kE,nu];have hi:=vU.1 hi;have tot:=s8.total;have tr:=s8.trans;unfold up at tot tr;grind
 let⟨p1,p2⟩:=zb3 (zev h0 hsw) n
 have acu:∀ j∈rq (nF n tb) n,j<n:=fun j hj=>vU.1 (p1.mem_iff.1 hj)
 refine⟨(rq (nF n tb) n).map fun j=>xs.getD j z0,fun id=>?_,?_,fun i j x y _ hij hj hx hy=>?_⟩
 .have hrw:nA d (Bk cB b (xs.flatMap g)++J) sz (.slM d b 0 n cp sz tg)=some (b,0,xs.flatMap g,xs.flatMap g,n):=by refine BP (zfd hb) hlen (nu.2 ?_) h0 xa1;intro x hx;obtain⟨a,_,ha⟩:=oQ.1 hx;exact nu.1 (hE.rO a) x ha
  have hfl:∀ l:List Nat,(∀ j∈l,j<n)->(l.flatMap fun j=>rowAt (xs.flatMap g) sz j)=(l.map fun j=>xs.getD j z0).flatMap g:=fun l hl=>by
   induction l with
   |nil=>rfl
   |cons a l ih=>grind
  simp only[aL,hS,hi,b9 (show ¬ kd=2 by omega),b9 (show ¬ kd=3 by omega),bU (show 4<=kd%7 by omega)]
  rw[Kl M,b9 Z,hrw,iD]
  simp only
  rw[htb,iD,bU hsw,hfl _ acu]
  unfold qM
  have hw:=vY (((rq (nF n tb) n).map fun j=>xs.getD j z0).flatMap g) (xs.flatMap g) [] (by rw[zj hE.len,hlen,qE,p1.length_eq,znm])
  simp only[fP,gq]at hw
  rw[zi,zi,hw,AH hb]
 .refine(p1.map _).trans (List.Perm.of_eq ?_)
  apply Hj
  grind
 .rw[qn]at hx hy
  obtain⟨i',hi',rfl⟩:=zky.1 hx
  obtain⟨j',hj',rfl⟩:=zky.1 hy
  have h1:=p2 i j i' j' hij hi' hj'
  rw[au j' i' (acu _ (og hj')) (acu _ (og hi'))]at h1
  unfold up
  grind
theorem By(hS:∀ args,S f args=none)(hi:aO f=some ⟨sz,[],.skip,kd⟩)(hkd:kd=4∨kd=5)(hm:1<=m){aa:aS}:∃ J':aS,∀ id,aL aO S m d ah aJ aa id f [.nilsl,fv]=some (.x,.tuple [],aa++J'):=by obtain⟨m,rfl⟩:∃ q,m=q+1:=⟨m-1,Z⟩;refine⟨[],fun id=>?_⟩;simp[aL,hS,hi,b9 (show ¬ kd=2 by omega),b9 (show ¬ kd=3 by omega),bU (show 4<=kd%7 by omega),pP,b9 (show ¬ kd=6 by omega),gF]
end
def Tk{g:H->List IV}{e:H->IV}(s8:Orders r)(hS:bk S)(hb:b<cB.length)(hE:MB g e 1 false)(hc:Eu S Nc d ah cB b e gf caps r)(hn:n<65536)(h0:n≠0)(m:Nat)(hm:Nc+1<=m)(aJ:aS)(xs:List H)(J:aS)(hV:nU cB b aJ)(hl0:xs.length=n) :
  ∃ xs':List H,(∀ id,aL aO S m d ah aJ (Bk cB b (xs.flatMap g)++J) id 231 [.slM d b 0 n cp 1 tg,.fn gf [] caps]=some (.x,.tuple [],Bk cB b (xs'.flatMap g)++J))/\xs'.Perm xs/\Srt r xs' 0 n :=
 Hl s8 (fun _=>hS _ _ M M M M) rfl (.inl ⟨rfl,rfl⟩) Nat.one_pos hb hE hc hn h0 m hm aJ xs J hV hl0
def Sz{g:H->List IV}{e:H->IV}(s8:Orders r)(hS:bk S)(hb:b<cB.length)(hE:MB g e 2 true)(hc:Eu S Nc d ah cB b e gf caps r)(hn:n<65536)(h0:n≠0)(m:Nat)(hm:Nc+1<=m)(aJ:aS)(xs:List H)(J:aS)(hV:nU cB b aJ)(hl0:xs.length=n) :
  ∃ xs':List H,(∀ id,aL aO S m d ah aJ (Bk cB b (xs.flatMap g)++J) id 256 [.slM d b 0 n cp 2 tg,.fn gf [] caps]=some (.x,.tuple [],Bk cB b (xs'.flatMap g)++J))/\xs'.Perm xs/\Srt r xs' 0 n :=
 Hl s8 (fun _=>hS _ _ M M M M) rfl (.inr ⟨rfl,rfl⟩) M hb hE hc hn h0 m hm aJ xs J hV hl0
def KS(hS:bk S){aa:aS}(hm:1<=m):∃ J':aS,∀ id,aL aO S m d ah aJ aa id 231 [.nilsl,fv]=some (.x,.tuple [],aa++J') :=
 By (fun _=>hS _ _ M M M M) rfl (.inl rfl) hm
def J9(hS:bk S){aa:aS}(hm:1<=m):∃ J':aS,∀ id,aL aO S m d ah aJ aa id 256 [.nilsl,fv]=some (.x,.tuple [],aa++J') :=
 By (fun _=>hS _ _ M M M M) rfl (.inr rfl) hm
theorem uM(hS:bk S){aa:aS}(hm:1<=m):∃ J':aS,∀ id,aL aO S m d ah aJ aa id 149 [.nilsl]=some (.x,.tuple [],aa++J'):=by obtain⟨m,rfl⟩:∃ q,m=q+1:=⟨m-1,Z⟩;have hi:aO 149=some ⟨1,[],.skip,6⟩:=rfl;refine⟨[],fun id=>?_⟩;simp[aL,(hS 149 [.nilsl] M M M M),hi,b9 (show ¬ (6=2) by simp),b9 (show ¬ (6=3) by simp),bU (show 4<=6%7 by simp),pP,if_true,gF]
theorem Ir(hS:bk S)(hb:b<cB.length)(xs:List Int)(hn:xs.length<65536)(h0:xs.length≠0)(hm:1<=m)(aJ:aS)(J:aS)(id:Nat) :
  aL aO S m d ah aJ (Bk cB b (xs.flatMap aK)++J) id 149 [.slM d b 0 xs.length cp 1 tg]=some (.x,.tuple [],Bk cB b ((jP xs).flatMap aK)++J):=by
 obtain⟨m,rfl⟩:∃ q,m=q+1:=⟨m-1,Z⟩
 have hi:aO 149=some ⟨1,[],.skip,6⟩:=rfl
 have hfm:∀ l:List Int,l.flatMap aK=l.map (IV.int .i64):=fun l=>by induction l<;>simp_all [aK,zf]
 have hrw:nA d (Bk cB b (xs.map (IV.int .i64))++J) 1 (.slM d b 0 xs.length cp 1 tg)=some (b,0,xs.map (IV.int .i64),xs.map (IV.int .i64),xs.length):=by refine BP (zfd hb) M (nu.2 ?_) h0 xa1;intro x hx;obtain⟨a,_,rfl⟩:=kO.1 hx;rfl
 rw[hfm,hfm]
 simp[aL,(hS 149 [.slM d b 0 xs.length cp 1 tg] M M M M),hi,b9 (show ¬ (6=2) by simp),b9 (show ¬ (6=3) by simp),bU (show 4<=6%7 by simp)]
 rw[Km M,bU rfl,hrw,iD]
 simp only
 rw[zn3,zbl (f:=TL ∘ IV.int .i64) (fun z _=>rfl),show xs.map (fun z:Int=>z)=xs from List.map_id _,iJ]
 unfold qM
 have hw:=vY ((jP xs).map (IV.int .i64)) (xs.map (IV.int .i64)) [] (by simp[(y9 xs).length_eq])
 simp[fP,gq]at hw
 rw[zi,zi,hw,AH hb]
theorem Tz{L:List (Int×Pt)}{id:Int}{y:Pt}(h:L.findIdx? (fun kv=>id==kv.1)=none)(id':Int):iU (L++[(id,y)]) id'=if id'=id then y else iU L id':=by unfold iU;grind
theorem IJ{id:Int}{y:Pt}(id':Int):∀{L:List (Int×Pt)}{i:Nat}(hi:i<L.length),L.findIdx? (fun kv=>id==kv.1)=some i->iU (L.set i (L[i].1,y)) id'=if id'=id then y else iU L id'
 |kv::L,i,hi,h=>by
  rw[Vx]at h;cases hk:id==kv.1
  .rw[hk]at h;simp[nv,if_false,zky]at h;obtain⟨j,hj,rfl⟩:=h;have ih:=IJ (y:=y) id' (by grind) hj;have e:∀(z:Int×Pt)(xgu:List (Int×Pt)),iU (z::xgu) id'=if id'==z.1 then z.2 else iU xgu id':=fun z xgu=>by unfold iU;grind
   grind
  .rw[hk]at h;simp[if_true,iw]at h;subst h;have hke:id=kv.1:=by grind
   subst hke;unfold iU;grind
def pW(l:List Nd)(id:Int):Pt:=((l.reverse.find? fun x=>id==x.id).map Nd.at').getD ⟨0,0⟩
theorem FQ(l:List Nd)(x:Nd)(id:Int):pW (l++[x]) id=if id=x.id then x.at' else pW l id:=by unfold pW;grind
theorem xE(L:List (Int×Pt))(bs:List Nat)(ck:Nat)(id:Int)(y:Pt):∃(L':List (Int×Pt))(bs':List Nat)(gX:Nat),(∀ id',iU L' id'=if id'=id then y else iU L id')/\∀(C:Call)(D:Nat)(ah:bq)(n0 j:Nat)(aJ aa:aS)(t:List IV)(a b c:bD),ρ t a=.mapM D j->ρ t b=aB id->ρ t c=.agg [aB y.x,aB y.y]->aa[j]?=some (.map (dO L) (dU L) bs ck) ->
  bY C D ah n0 aJ aa t (.mapupd (false,[1]) a b c)=some (.x,.tuple [],aa.set j (.map (dO L') (dU L') bs' gX)):=by
 have hk:(jV false (IV.int .i64 id)&&(IV.int .i64 id).cells.length==[1].length)=true:=rfl
 cases h:L.findIdx? fun kv=>id==kv.1 with
 |none =>
  refine⟨L++[(id,y)],bs++[ck],ck+1,Tz h,fun C D ah n0 j aJ aa t a b c h1 h2 h3 h4=>?_⟩
  rw[Z7]
  simp only[fL,h1,h2,h3,h4,hk,MD,if_true,Y7,h,Vu,zi]
  simp[dO,dU,Pt.c,zf]
 |some i =>
  obtain⟨hi,hq,_⟩:=EW.1 h
  have he:id=L[i].1:=by grind
  refine⟨L.set i (L[i].1,y),bs,ck,fun id'=>IJ id' hi h,fun C D ah n0 j aJ aa t a b c h1 h2 h3 h4=>?_⟩
  rw[Z7]
  simp only[fL,h1,h2,h3,h4,hk,MD,if_true,Y7,h,iJ,eB,zi]
  have hks:dO (L.set i (L[i].1,y))=dO L:=by unfold dO;rw[List.map_set];refine Hj fun k=>?_;grind
  have hvs:dU (L.set i (L[i].1,y))=(dU L).set i (.agg [aB y.x,aB y.y]):=by unfold dU;rw[List.map_set];rfl
  grind
theorem XW(p:Pn){m D:Nat}{ah:bq}(hm:p.ns.l.length+4<=m){K:eU}(t:List IV)(X:aP)(L:List (Int×Pt))(bs:List Nat)(ck:Nat)(O:aS)(lv:IV)(hL0:∀ id,iU L id=⟨0,0⟩)
  (af:aN 117 t [(1,.ptrM D 0 0),(3,lv),(5,.mapM D 2)])
  (hK:∀ t' L' bs' gX O',(∀ id,iU L' id=pW p.ns.l id)->aN 117 t' [(1,.ptrM D 0 0),(3,lv),(5,.mapM D 2)]->K .normal ⟨t',p.o::X::.map (dO L') (dU L') bs' gX::O'⟩) :
  Ex (aL aO S m) D ah m (i229.body.sub [1,1,1,1,0]) K ⟨t,p.o::X::.map (dO L) (dU L) bs ck::O⟩:=by
 simp[za,zb]at af
 have hnf:=p.ns.eZ
 simp[i229,IC.sub,V0,seval,af]
 refine zn (fun jj st=>∃(i:Nat)(L:List (Int×Pt))(bs:List Nat)(ck:Nat)(O:aS),p.ns.l.length-i<=jj/\(i<=p.ns.l.length/\∀ id,iU L id=pW (p.ns.l.take i) id)/\st.aa=p.o::X::.map (dO L) (dU L) bs ck::O/\aN 117 st.t [(1,.ptrM D 0 0),(3,lv),(5,.mapM D 2),(25,p.ns.v),(26,iv (p.ns.l.length:Nat)),(27,iv i)]) p.ns.l.length Z ⟨0,L,bs,ck,O,Z,⟨Z,fun id=>by rw[hL0];rfl⟩,rfl,by simp[V0,seval,af,cZ]⟩ ?_
 clear af
 rintro jj ⟨t,bJ⟩ KB ⟨i,L,bs,ck,O,hjj,⟨hi,hlk⟩,rfl,af⟩ gJ jL kP
 simp[za,zb,zf]at af
 by_cases h:i<p.ns.l.length
 .obtain⟨x,hx⟩:=fc (l:=p.ns.l) (i:=i) h
  have hrd:bB (p.ns.l.flatMap Nd.c) (i*3) 3=some [aB x.id,aB x.at'.x,aB x.at'.y]:=xcn
  have hw:=zt i
  let⟨L',bs',gX,agz,CZ⟩:=xE L bs ck x.id x.at'
  have FX:=fun C n0 aJ aa t a b c=>CZ C D ah n0 2 aJ aa t a b c
  simp only[V0,seval,zc p.ns h, *]
  exact gJ _ (p.ns.l.length-(i+1)) Z ⟨i+1,L',bs',gX,_,Z,⟨Z,fun id=>by rw[agz,hlk,jh,hx,oP,FQ]⟩,rfl,bS⟩
 .simp[V0,seval,af,h]
  refine jL _ _ ?_
  simp[V0,seval]
  exact hK _ _ _ _ _ (fun id=>by grind) bS
def sh(k:Nat):IV->IV
 |.ptrM l i o=>.ptrM (l+k) i o
 |.ptrC cs o=>.ptrC (cs.map (sh k)) o
 |.slM l i off len cap sz t=>.slM (l+k) i off len cap sz t
 |.slC cs len sz t=>.slC (cs.map (sh k)) len sz t
 |.mapM l i=>.mapM (l+k) i
 |.cR ks vs=>.cR (ks.map (sh k)) (vs.map (sh k))
 |.fn f a b=>.fn f (a.map (sh k)) (b.map (sh k))
 |.agg cs=>.agg (cs.map (sh k))
 |.tuple cs=>.tuple (cs.map (sh k))
 |.bool b=>.bool b
 |.int kd n=>.int kd n
 |.str s=>.str s
 |.bw=>.bw
 |.nilsl=>.nilsl
 |.dY=>.dY
 |.iX=>.iX
def nk:Nat->IV->Bool
 |0,_=>false
 |n+1,v=>match v with
  |.ptrM ..=>false
  |.ptrC cs _=>cs.all (nk n)
  |.slM ..=>false
  |.slC cs _ _ _=>cs.all (nk n)
  |.mapM ..=>false
  |.cR ks vs=>ks.all (nk n)&&vs.all (nk n)
  |.fn _ a b=>a.all (nk n)&&b.all (nk n)
  |.agg cs=>cs.all (nk n)
  |.tuple cs=>cs.all (nk n)
  |_=>true
def jN(p:Pn)(v:Bool):Prop:=bif p.az.l.any (lp p)then v=false else(Nr p=[]/\v=true)∨∃(L:List (Int×Pt))(l:List Sg),(∀ id,iU L id=pW p.ns.l id)/\(l.map Sg.sp).Perm (Nr p)/\Srt (fun s u=>tT s.w u.w) l 0 l.length/\WX p L l v
theorem Ot:Orders (fun(s u:Sg)=>tT s.w u.w):=by
 have h:∀ x y:Int,tT x y<0↔x<y:=fun x y=>by unfold tT;omega
 constructor
 .intro x y;simp only[up,h];omega
 .intro x y z;simp only[up,h];omega
theorem FA(hS:bk S)(p:Pn)(hv:∀ a∈p.az.l,a.via.l.length<=64)(ha:p.az.l.length<=600):∃ N,∀ m,N<=m->∀ d ah aJ aa id,∃ v:Bool,jN p v/\aL aO S m d ah aJ aa id 229 [.agg p.c]=some (.r,.bool v,aa):=by
 let⟨Ns,hNs⟩:=UN hS p hv Z;refine⟨Ns+200000+p.ns.l.length,fun m hm d ah aJ aa id=>?_⟩;obtain⟨m,rfl⟩:=gv m 2;have main:∃ r,aL aO S (m+1+1) d ah aJ aa id 229 [.agg p.c]=some r/\∃ v:Bool,jN p v/\r=(dI.r,.bool v,aa):=by
  refine zF (i:=i229) (hS _ _ M M M M) rfl Δ (bP rfl) fun t af=>?_;simp[slotsOf,za,zb,i229,Pn.c]at af;generalize(fun l=>if l=d then aJ else ah l:bq)=bH
  have fin:∀ v t' O',jN p v->aN 117 t' [(2,.bool v)]->(Out.ret=.normal∨Out.ret=.ret)/\∃ w r,bh (d+1) bH ⟨t',O'⟩ i229.res=some w/\leave (m+1) d O' aa id i229.mode w=some r/\∃ v:Bool,jN p v/\r=(dI.r,.bool v,aa):=fun v t' O' hpv ht=>by simp[za,zb]at ht;refine⟨.inr rfl,.bool v,_,?_,(fun o v=>by rfl:∀(o:aS)(v:Bool),leave (m+1) d o aa id 0 (.bool v)=some (.r,.bool v,aa)) _ _,v,hpv,rfl⟩;simp[i229,V0,seval,ht]
  suffices jc:∀ K:eU,(∀ v t' O',jN p v->aN 117 t' [(2,.bool v)]->K .ret ⟨t',O'⟩)->Ex (aL aO S (m+1)) (d+1) bH (m+1) i229.body K ⟨t,[]⟩from jc _ fin
  clear fin;intro K fin;have hM:=fun{D:Nat}(l:List Sg) L bs ck=>@Tm S hS p l L bs ck (m+1) D bH;have hN:=fun{D:Nat}=>@XV S (m+1) D bH Z;have hU:=fun{D:Nat}=>@XW S p (m+1) D bH Z;rw[show i229.body=.seq (i229.body.sub [0]) (.seq (i229.body.sub [1,0]) (.seq (i229.body.sub [1,1,0]) (.seq (i229.body.sub [1,1,1,0]) (.seq (i229.body.sub [1,1,1,1,0]) (.seq (i229.body.sub [1,1,1,1,1,0]) (i229.body.sub [1,1,1,1,1,1]))))))from rfl];generalize i229.body.sub [1,1,1,1,1,1]=T at hM hN ⊢;generalize i229.body.sub [1,1,1,1,0]=U at hU ⊢;have agw:∀(x y:aP),([x,y,aP.map [] [] [] 0]:aS)=x::y::.map (dO []) (dU []) [] 0::[]:=fun _ _=>rfl;let⟨r,jE,hr2⟩:=hNs (m+1) Z (d+1) bH [p.o,.free] [p.o,.free] 1 rfl;simp[Pn.c]at jE;rcases hr2 with⟨b,rfl,tN,hsp⟩|⟨l,hne,IZ,⟨tN,hsp⟩,rfl⟩
  .cases b with
   |false =>
    simp[i229,IC.sub,V0,seval,af,jE]
    exact fin false _ _ (by unfold jN;grind) bS
   |true =>
    simp[i229,IC.sub,V0,seval,af,jE]
    refine hU _ _ [] [] 0 [] .nilsl (fun id=>rfl) bS fun t' L' bs' gX O' hlk ht=>?_
    simp[za,zb]at ht
    obtain⟨J',hs⟩:=J9 (d:=d+1) (ah:=bH) (aJ:=p.o::.free::.map (dO L') (dU L') bs' gX::(O'++[.free])) (aa:=p.o::.free::.map (dO L') (dU L') bs' gX::(O'++[.free])) (fv:=.fn 257 [] []) hS (m:=m+1) Z
    simp[V0,seval,ht,hs]
    exact hN _ _ bS fun t' O' h=>fin true t' O' (by unfold jN;grind) h
  .simp[zk4,RP]at jE;simp[i229,IC.sub,V0,seval,af,jE];refine hU _ _ [] [] 0 [] (.slM (d+1) 1 0 l.length l.length 2 false) (fun id=>rfl) bS fun t' L' bs' gX O' hlk ht=>?_;simp[za,zb]at ht;obtain⟨l2,hs,hp,hsr⟩:=Sz (d:=d+1) (ah:=bH) (cp:=l.length) (tg:=false) Ot hS (show 1<(p.o::aH (l.flatMap Sg.g)::.map (dO L') (dU L') bs' gX::(O'++[.free])).length by simp) Fe (fun m hm=>FB hS m Z) (n:=l.length) Z (fun h=>hne (EC h)) (m+1) (Nc:=8) Z (p.o::aH (l.flatMap Sg.g)::.map (dO L') (dU L') bs' gX::(O'++[.free])) l [] (fun _ _ _=>rfl) rfl;have iN:l2.length=l.length:=hp.length_eq;simp[Bk,zk4,RP,gF]at hs;simp[V0,seval,ht,hs];refine hM (D:=d+1) l2 L' bs' gX Z Z _ [p.o,aH (l2.flatMap Sg.g),.map (dO L') (dU L') bs' gX] (O'++[aP.free]) rfl rfl rfl ?_ fun v t' O' hres h=>fin v t' O' (by
    unfold jN;grind) h
   rw[iN];simp[V0,seval,ht]
 grind
def mK(p:Pn):Bool:=decide ((256:Int)<(p.ns.l.length:Int))||(decide ((256:Int)<(p.az.l.length:Int))||decide ((64:Int)<(p.fs.l.length:Int)))
def nG(p:Pn):Bool:=p.az.l.any fun a=>decide ((64:Int)<(a.via.l.length:Int))
def qu(p:Pn):Bool:=dz (p.ns.l.map Nd.id)&&(dz (p.az.l.map Ac.id)&&dz p.fs.l)
def wS(p:Pn):Bool:=!((p.ns.l.map Nd.id).any iO)&&(!((p.az.l.map Ac.id).any iO)&&(!(p.fs.l.any iO)&&iE p))
def rS(p:Pn)(v:Bool):Int:=bif mK p||nG p then 3 else bif !qu p then 10 else bif !wS p then 2 else bif kB p (p.ns.l.map Nd.id)==0 then(bif v then 0 else 11)else kB p (p.ns.l.map Nd.id)
def Dm{aa:aS}{cs:List IV}{len:Nat}{tight:Bool}:bl (n+1) d aa (.slC cs len sz tight)=(cs.mapM (bl n d aa)).map (.slC · len sz tight):=aI
theorem zbm{aa:aS}{g:H->List IV}(q:aR sz g)(hg:∀ a,∀ x∈g a,bl n d aa x=some x):bl (n+1) d aa q.v=some q.v:=by
 have hh:∀(cs:List IV)(k:Nat)(v:IV),Sl sz cs k v->(∀ x∈cs,bl n d aa x=some x)->bl (n+1) d aa v=some v:=fun cs k v hs hc=>by
  cases hs with
  |nil=>rfl
  |row cs k tight hl=>rw[Dm,zD hc];rfl
 refine hh _ _ _ q.ok fun x hx=>?_;grind
theorem zdy(n d:Nat)(aa:aS)(q:aR 1 aK):bl (n+2) d aa q.v=some q.v:=zbm q fun a x hx=>by simp[aK,zf,eG,gm,gw]at hx;rw[hx];rfl
def nR(a b c d:Pt):Int:=aT .i64 (aT .i64 (aT .i64 (b.x-a.x)*aT .i64 (d.y-c.y))-aT .i64 (aT .i64 (b.y-a.y)*aT .i64 (d.x-c.x)))
def LG(a b c d:Pt):Int:=aT .i64 (aT .i64 (aT .i64 (b.x-a.x)*aT .i64 (d.x-c.x))+aT .i64 (aT .i64 (b.y-a.y)*aT .i64 (d.y-c.y)))
theorem AP(hS:bk S)(l:List Pt)(hl:l.length<=1000):aM S (l.length+4) 238 [.slC (l.flatMap Pt.c) l.length 2 true] (.bool (l.all bg)):=by
 refine PA i238 hS (l.length+3) zk fun m hm d ah t af=>?_;simp only[slotsOf,za,zb,i238]at af;simp only[i238,V0,seval];refine zm l.length (fun i st=>∃(O:aS),(l.take i).all bg=true/\st.aa=O/\aN 40 st.t [(0,.slC (l.flatMap Pt.c) l.length 2 true),(3,iv i)]) Z ⟨[],M,rfl,by simp only[V0,seval,af,cZ]⟩ ?_;rintro i ⟨t,aa⟩ KA hi ⟨O,ha,rfl,af⟩ bp bK bQ;simp only[V3]at af;by_cases h:i<l.length
 .have hx:l[i]?=some l[i]:=dw h;have hmem:l[i]∈l:=gQ h;generalize l[i]=x at hx hmem;have s8:bB (l.flatMap Pt.c) (i*2) 1=some [aB x.x]:=(zd (sz:=2) (fun _=>rfl) 0 1 hx Z).trans rfl;have jE:bB (l.flatMap Pt.c) (i*2+1) 1=some [aB x.y]:=(zd (sz:=2) (fun _=>rfl) 1 1 hx Z).trans rfl;have hw:=zt i;have fin:bg x=false->l.all bg=false:=fun hf=>by rw[zmk];exact⟨x,hmem,by rw[hf];decide⟩
  cases h1:decide (x.x < -2097152)
  .exact xaf
  .simp only[V0,seval,af,h,zC,s8,h1];exact xf4
 .exact xb7
theorem zfh(hS:bk S)(a b c d:Pt):aM S 2 239 [.agg a.c,.agg b.c,.agg c.c,.agg d.c] (aB (nR a b c d)):=by refine zg (i:=i239) (hS _ _ M M M M) rfl rfl (bP rfl) 1 Z zp fun m hm d ah t af=>?_;simp[V2,Xb,i239,Pt.c]at af;simp[i239,V0,seval,af,nR]
theorem aa9(hS:bk S)(a b c d:Pt):aM S 2 240 [.agg a.c,.agg b.c,.agg c.c,.agg d.c] (aB (LG a b c d)):=by refine zg (i:=i240) (hS _ _ M M M M) rfl rfl (bP rfl) 1 Z zp fun m hm d ah t af=>?_;simp[V2,Xb,i240,Pt.c]at af;simp[i240,V0,seval,af,LG]
theorem Re(hS:bk S)(a b:Pt):aM S 2 278 [.agg a.c,.agg b.c] (.bool (decide (a.x<b.x)||(a.x==b.x&&decide (a.y<b.y)))):=by
 refine zg (i:=i278) (hS _ _ M M M M) rfl rfl (bP rfl) 1 Z zk fun m hm d ah t af=>?_;simp[V2,i278,Pt.c]at af;cases h1:decide (a.x<b.x)
 .cases h2:a.x==b.x
  .simp only[i278,V0,seval,af,h1,h2,jg,dZ]
  .simp only[i278,V0,seval,af,h1,h2,jg]
 .simp only[i278,V0,seval,af,h1,k9]
def qH(a b p:Pt):Bool:=[a,b,p].all bg&&(nR a b a p==0&&decide (LG a p b p<=0))
theorem Q9(hS:bk S)(a b p:Pt):aM S 8 197 [.agg a.c,.agg b.c,.agg p.c] (.bool (qH a b p)):=by
 refine zg (i:=i197) (hS _ _ M M M M) rfl rfl (bP rfl) (7) Z zk fun m hm d ah t af=>?_;simp[V2,Xb,i197,Pt.c]at af;have c0:=fun d ah aJ aa i=>AP hS [a,b,p] M m Z d ah aJ aa i;simp only[eT,jm,Pt.c,gu,fP,zf,fB,gq,eB,Xb]at c0;have c1:=fun dd ah aJ aa i=>zfh hS a b a p m Z dd ah aJ aa i;have c2:=fun dd ah aJ aa i=>aa9 hS a p b p m Z dd ah aJ aa i;simp[Pt.c,zf]at c1 c2;unfold qH;cases hb:[a,b,p].all bg
 .simp[hb]at c0;simp only[i197,V0,seval,af,Zm,c0,dZ]
 .simp[hb]at c0;cases h0:nR a b a p==0
  .simp only[i197,V0,seval,af,Zm,c0,c1,h0,nr,dZ]
  .cases h1:decide (LG a p b p<=0)
   .simp only[i197,V0,seval,Zm,nr, *]
   .simp only[i197,V0,seval,Zm, *]
theorem Mh(hS:bk S)(a b c d:Pt):aM S 4 241 [.agg a.c,.agg b.c,.agg c.c,.agg d.c] (aB (dc a b c d)):=by
 refine zg (i:=i241) (hS _ _ M M M M) rfl rfl (bP rfl) (3) Z zp fun m hm dd ah t af=>?_;simp[V2,Xb,i241,Pt.c]at af;have cb:∀(u v:Pt) dd ah aJ aa i,aL aO S m dd ah aJ aa i 278 [.agg [aB u.x,aB u.y],.agg [aB v.x,aB v.y]]=some (.r,.bool (jk u v),aa):=fun u v dd ah aJ aa i=>Re hS u v m Z dd ah aJ aa i;unfold dc;let⟨p1,p2,hp,hs1⟩:∃ p1 p2:Pt,jC a b=(p1,p2)/\True:=⟨_,_,rfl,trivial⟩;let⟨q1,q2,hq,hs2⟩:∃ q1 q2:Pt,jC c d=(q1,q2)/\True:=⟨_,_,rfl,trivial⟩;simp[hp,hq];have fin:∀(K:eU)(t:List IV),aN 33 t [(4,.ptrM dd 0 0),(5,.ptrM dd 1 0),(6,.ptrM dd 2 0),(7,.ptrM dd 3 0)] ->
   (∀ t' O',aN 33 t' [(8,aB (let f:=bif jk p1 q1 then q1 else p1;let l:=bif jk q2 p2 then q2 else p2;bif dR f l then 1 else bif jk f l then 2 else 0))]->K .ret ⟨t',O'⟩) ->
   Ex (aL aO S m) dd ah m (i241.body.sub [1,1,1]) K ⟨t,aH [aB p1.x,aB p1.y]::aH [aB p2.x,aB p2.y]::aH [aB q1.x,aB q1.y]::aH [aB q2.x,aB q2.y]::[.free,.free]⟩:=by
  intro K t af hK
  simp[za,zb]at af
  cases h1:jk p1 q1<;>cases h2:jk q2 p2
  .cases h3:dR p1 p2
   .cases h4:jk p1 p2
    .have h3':=h3
     unfold dR at h3'
     simp only[i241,IC.sub,V0,seval,zR,j4, *]
     exact hK _ _ (by simp[V0,seval,bT, *])
    .exact Rr
   .exact xau
  .cases h3:dR p1 q2
   .cases h4:jk p1 q2
    .exact Rr
    .exact Rr
   .exact xau
  .cases h3:dR q1 p2
   .cases h4:jk q1 p2
    .exact Rr
    .exact Rr
   .exact xau
  .cases h3:dR q1 q2
   .cases h4:jk q1 q2
    .exact Rr
    .exact Rr
   .have h3':=h3
    unfold dR at h3'
    simp only[i241,IC.sub,V0,seval,zR,j4, *]
    exact hK _ _ (by simp[V0,seval,af,h1,h2,h3,bV])
 have hsw:∀ u v:Pt,jC u v=bif jk v u then(v,u)else(u,v):=fun _ _=>rfl
 rw[show i241.body=.seq (i241.body.sub [0]) (.seq (i241.body.sub [1,0]) (.seq (i241.body.sub [1,1,0]) (i241.body.sub [1,1,1])))from rfl];generalize hB:i241.body.sub [1,1,1]=B at fin ⊢;rw[hsw]at hp hq;cases h1:jk b a<;>cases h2:jk d c
 .rw[h1]at hp;rw[h2]at hq;simp[bT,vT]at hp hq;exact xai
 .exact xgf
 .exact xgf
 .rw[h1]at hp;rw[h2]at hq;simp[bV,vT]at hp hq;exact xai
def tK(n s t:Int):Int:=bif decide (0<=s)&&(decide (s<=n)&&(decide (0<=t)&&decide (t<=n)))then 1 else 0
def rY(a b c d:Pt):Int:=bif nR a b c d==0 then(bif (nR a b a c != 0)||((nR a b a d != 0)||((nR c d c a != 0)||(nR c d c b != 0)))then 0 else dc a b c d)else
 bif decide (nR a b c d<0)then tK (aT .i64 (0-nR a b c d)) (aT .i64 (0-nR a c c d)) (aT .i64 (0-nR a c a b))else tK (nR a b c d) (nR a c c d) (nR a c a b)
def cM(a b c d:Pt):Int:=bif [a,b,c,d].all bg then(bif dR a b&&(dR c d&&!dR a c)then 0 else rY a b c d)else 0
theorem Rb(hS:bk S)(a b c d:Pt){dd:Nat}(hm:8<=m){K:eU}(t:List IV)(af:aN 108 t [(4,.ptrM dd 0 0),(5,.ptrM dd 1 0),(6,.ptrM dd 2 0),(7,.ptrM dd 3 0)])
  (hK:∀ t' O',aN 108 t' [(8,aB (rY a b c d))]->K .ret ⟨t',O'⟩) :
  Ex (aL aO S m) dd ah m (i198.body.sub [1,1,1]) K ⟨t,aH [aB a.x,aB a.y]::aH [aB b.x,aB b.y]::aH [aB c.x,aB c.y]::aH [aB d.x,aB d.y]::[.free]⟩:=by
 simp[za,zb]at af
 have iS:∀ z:Int,(z != 0)=!(z==0):=fun z=>rfl
 have cc:∀(u v w z:Pt) dd ah aJ aa i,aL aO S m dd ah aJ aa i 239 [.agg [aB u.x,aB u.y],.agg [aB v.x,aB v.y],.agg [aB w.x,aB w.y],.agg [aB z.x,aB z.y]]=some (.r,aB (nR u v w z),aa):=fun u v w z dd ah aJ aa i=>zfh hS u v w z m Z dd ah aJ aa i
 have ch:=fun dd ah aJ aa i=>Mh hS a b c d m Z dd ah aJ aa i
 simp[Pt.c,zf]at ch
 unfold rY at hK
 cases h0:nR a b c d==0
 .rw[h0]at hK
  simp only[bT]at hK
  cases h1:decide (nR a b c d<0)
  .rw[h1]at hK
   simp[bT]at hK
   generalize hn:nR a b c d=n at *
   generalize hs:nR a c c d=s at *
   generalize ht:nR a c a b=w at *
   cases g1:decide (0<=s)
   .exact xdr
   .cases g2:decide (s<=n)
    .exact xdk
    .cases g3:decide (0<=w)
     .exact xc5
     .cases g4:decide (w<=n)
      .exact xds
      .exact xdt
  .rw[h1]at hK
   simp only[bV]at hK
   generalize hn:nR a b c d=n at *
   generalize hs:nR a c c d=s at *
   generalize ht:nR a c a b=w at *
   generalize hn2:aT .i64 (0-n)=n2 at *
   generalize hs2:aT .i64 (0-s)=s2 at *
   generalize ht2:aT .i64 (0-w)=w2 at *
   cases g1:decide (0<=s2)
   .exact xdr
   .cases g2:decide (s2<=n2)
    .exact xdk
    .cases g3:decide (0<=w2)
     .exact xc5
     .cases g4:decide (w2<=n2)
      .exact xds
      .exact xdt
 .rw[h0]at hK
  simp[bV,iS]at hK
  cases g1:nR a b a c==0
  .simp only[i198,IC.sub,V0,seval, *]
   exact hK _ _ (by simp[V0,seval,af,g1,k9,bV])
  .cases g2:nR a b a d==0
   .simp only[i198,IC.sub,V0,seval, *]
    exact hK _ _ (by simp[V0,seval,af,g1,g2,jg,k9,bV])
   .cases g3:nR c d c a==0
    .simp only[i198,IC.sub,V0,seval, *]
     exact hK _ _ (by simp[V0,seval,af,g1,g2,g3,jg,k9,bV])
    .cases g4:nR c d c b==0
     .simp only[i198,IC.sub,V0,seval, *]
      exact hK _ _ (by simp[V0,seval,jg,bV, *])
     .simp only[i198,IC.sub,V0,seval, *]
      exact hK _ _ (by simp[V0,seval,jg,bT, *])
theorem JK(hS:bk S)(a b c d:Pt):aM S 14 198 [.agg a.c,.agg b.c,.agg c.c,.agg d.c] (aB (cM a b c d)):=by
 refine zg (i:=i198) (hS _ _ M M M M) rfl rfl (bP rfl) (13) Z zp fun m hm dd ah t af=>?_;simp[V2,Xb,i198,Pt.c]at af;have c0:=fun dd ah aJ aa i=>AP hS [a,b,c,d] M m (by grind) dd ah aJ aa i;simp only[eT,jm,Pt.c,gu,fP,zf,fB,gq,eB,Xb]at c0;have fin:=fun(K:eU) t=>Rb hS a b c d (m:=m) (dd:=dd) (ah:=ah) Z (K:=K) t;have q1:(true != false)=true:=rfl;have q2:(true != true)=false:=rfl;rw[show i198.body=.seq (i198.body.sub [0]) (.seq (i198.body.sub [1,0]) (.seq (i198.body.sub [1,1,0]) (i198.body.sub [1,1,1])))from rfl];generalize hB:i198.body.sub [1,1,1]=B at fin ⊢;unfold cM;cases hb:[a,b,c,d].all bg
 .simp[hb]at c0;simp[i198,IC.sub,V0,seval,af,YK,c0,bT]
 .simp[hb]at c0;cases h1:dR a b
  .have h1':(a.x==b.x&&a.y==b.y)=false:=h1;simp only[i198,IC.sub,V0,seval,af,YK,c0,zR,h1',j4];exact xef
  .have h1':(a.x==b.x&&a.y==b.y)=true:=h1;cases h2:dR c d
   .have h2':(c.x==d.x&&c.y==d.y)=false:=h2;simp only[i198,IC.sub,V0,seval,af,YK,c0,zR,h1',h2',j4];exact xef
   .have h2':(c.x==d.x&&c.y==d.y)=true:=h2;cases h3:dR a c
    .have h3':(a.x==c.x&&a.y==c.y)=false:=h3;simp only[i198,IC.sub,V0,seval,YK,zR,j4,bV, *]
    .have h3':(a.x==c.x&&a.y==c.y)=true:=h3;simp only[i198,IC.sub,V0,seval,YK,zR,j4, *];refine fin _ _ bS fun t' O' ht=>?_;simp[za,zb]at ht;simp[V0,seval,ht,bT,bV]
theorem Q6(hS:bk S)(p:Pt):aM S 2 166 [.agg p.c] (.bool (!gj p)):=by
 refine zg (i:=i166) (hS _ _ M M M M) rfl rfl (bP rfl) (1) Z zk fun m hm d ah t af=>?_;simp[slotsOf,za,zb,i166,Pt.c]at af;have hle:∀ a b:Int,decide (a<b)=!decide (b<=a):=fun a b=>by grind
 have e:gj p=!(decide (-1048576<=p.x)&&(decide (p.x<=1048576)&&(decide (-1048576<=p.y)&&decide (p.y<=1048576)))):=by unfold gj;grind
 rw[e,Bool.not_not];cases h1:decide (-1048576<=p.x)
 .simp only[i166,V0,seval,af,l7,h1,dZ]
 .cases h2:decide (p.x<=1048576)
  .simp only[i166,V0,seval,af,l7,h1,h2,dZ]
  .cases h3:decide (-1048576<=p.y)
   .simp only[i166,V0,seval,af,l7,h1,h2,h3,dZ]
   .simp only[i166,V0,seval,af,l7,h1,h2,h3]
theorem G0(hS:bk S)(l:aR 1 aK):aM S (l.l.length+4) 131 [l.v] (.bool (dz l.l)):=by
 refine u5 (i:=i131) (Cz hS) rfl (by first|exact .inl rfl|exact .inr rfl) (bP rfl) (l.l.length+3) Z zk (fun _=>rfl) (fun d aa=>by simp only[mq,qi,zdy 10 d aa l,nY,nZ,iD]) fun m hm d ah t af=>?_
 simp only[slotsOf,za,zb,i131]at af;have hlf:=l.eZ;simp only[i131,V0,seval];exact aC
theorem vN(hS:bk S)(p:Pn):aM S (p.az.l.length+4) 130 [.agg p.c] (.bool (mK p||nG p)):=by
 refine zg (i:=i130) (hS _ _ M M M M) rfl rfl (bP rfl) (p.az.l.length+3) Z zk fun m hm d ah t af=>?_;simp[slotsOf,za,zb,i130,Pn.c]at af;have MR:=p.az.eZ;simp[i130,V0,seval,af];refine zm p.az.l.length (fun i st=>∃(O:aS),(p.az.l.take i).any (fun a=>decide ((64:Int)<(a.via.l.length:Int)))=false/\st.aa=p.o::O/\aN 35 st.t [(1,.ptrM d 0 0),(3,iv i)]) Z ⟨[],M,rfl,by simp[V0,seval,af,cZ]⟩ ?_;clear af;rintro i ⟨t,aa⟩ KA hi ⟨O,ha,rfl,af⟩ bp bK bQ;simp[za,zb,zf]at af;by_cases h:i<p.az.l.length
 .obtain⟨x,hx⟩:=fc (l:=p.az.l) (i:=i) h;have hrd:bB (p.az.l.flatMap Ac.c) (i*6+3) 1=some [x.via.v]:=(zd Ac.aV 3 1 hx Z).trans rfl;have hw:=zt i;cases hq:decide ((64:Int)<(x.via.l.length:Int))
  .exact xek
  .have hlv:nG p=true:=xe9;simp[V0,seval,af,h,zc p.az h,hrd,ez,hq];refine bQ _ ?_;simp[V0,seval,af,hlv,RM]
 .have hlv:nG p=false:=by unfold nG;grind
  simp[V0,seval,af,h];refine bK _ _ ?_;unfold mK;rw[hlv,zno];cases l1:decide ((256:Int)<(p.ns.l.length:Int))
  .cases l2:decide ((256:Int)<(p.az.l.length:Int))
   .simp only[V0,seval,af,ez,l1,l2,jg]
   .simp only[V0,seval,af,ez,l1,l2,jg,k9]
  .simp only[V0,seval,af,ez,l1,k9]
theorem Vd(hS:bk S)(p:Pn)(n:Int):aM S (p.fs.l.length+4) 136 [.agg p.c,iv n] (.bool (ox p.fs.l n||n==0)):=by
 refine zg (i:=i136) (hS _ _ M M M M) rfl rfl (bP rfl) (p.fs.l.length+3) Z zk fun m hm d ah t af=>?_;simp[V2,i136,Pn.c,zf]at af;have MR:=p.fs.eZ;simp[i136,V0,seval,af];refine zm p.fs.l.length (fun i st=>∃(O:aS),(p.fs.l.take i).any (fun x=>n==x)=false/\st.aa=p.o::O/\aN 22 st.t [(1,iv n),(2,.ptrM d 0 0),(5,iv i)]) Z ⟨[],M,rfl,by simp[V0,seval,af,cZ]⟩ ?_;clear af;rintro i ⟨t,aa⟩ KA hi ⟨O,ha,rfl,af⟩ bp bK bQ;simp[za,zb,zf]at af;by_cases h:i<p.fs.l.length
 .obtain⟨x,hx⟩:=fc (l:=p.fs.l) (i:=i) h;have hrd:bB (p.fs.l.flatMap aK) (i*1) 1=some [aB x]:=zd ze 0 1 hx Z;have hw:=zt i;have hsw:(n==x)=(x==n):=by grind
  cases hq:x==n
  .simp only[V0,seval,zc p.fs h, *];exact bp Z _ ⟨_,zJ hx ha (hsw.trans hq),rfl,bS⟩
  .have hh:ox p.fs.l n=true:=yl (q:=fun x=>n==x) hx (hsw.trans hq);simp only[V0,seval,af,h,zc p.fs h,hrd,hq];refine bQ _ ?_;simp[V0,seval,af,hh,k9]
 .have hh:ox p.fs.l n=false:=by unfold ox;grind
  simp[V0,seval,af,h];refine bK _ _ ?_;simp[V0,seval,af,hh,jg]
def afi(a:Ac)(id:Int):Bool:=a.fr==id||a.to==id
theorem JL(hS:bk S)(a:Ac)(id:Int):aM S 2 199 [.agg a.c,iv id] (.bool (afi a id)):=by
 refine zg (i:=i199) (hS _ _ M M M M) rfl rfl (bP rfl) (1) Z zk fun m hm d ah t af=>?_;simp[V2,i199,Ac.c,zf]at af;unfold afi;cases h1:a.fr==id
 .simp only[i199,V0,seval,af,h1,jg]
 .simp only[i199,V0,seval,af,h1,k9]
theorem Q7(hS:bk S)(p:Pn):aM S (2*p.ns.l.length+8) 134 [.agg p.c] (.bool (lF p.ns.l)):=by
 refine zg (i:=i134) (hS _ _ M M M M) rfl rfl (bP rfl) (2*p.ns.l.length+7) Z zk fun m hm d ah t af=>?_;simp[slotsOf,za,zb,i134,Pn.c]at af;have hnf:=p.ns.eZ;simp[i134,V0,seval,af];refine zn (fun jj st=>∃(i:Nat)(O:aS),p.ns.l.length-i<=jj/\i<=p.ns.l.length/\(p.ns.l.zipIdx.take i).any (fun ni=>(p.ns.l.take ni.2).any fun m=>dR ni.1.at' m.at')=false/\st.aa=p.o::O/\aN 30 st.t [(1,.ptrM d 0 0),(3,iv i)]) p.ns.l.length Z ⟨0,[],Z,Z,M,rfl,by simp[V0,seval,af,cZ]⟩ ?_;rintro jj ⟨t,aa⟩ KA ⟨i,O,hjj,hi,ha,rfl,af⟩ bp bK bQ;simp[za,zb,zf]at af;by_cases h:i<p.ns.l.length
 .obtain⟨x,hx⟩:=fc (l:=p.ns.l) (i:=i) h;have hxz:p.ns.l.zipIdx[i]?=some (x,i):=by grind
  have hrd:bB (p.ns.l.flatMap Nd.c) (i*3+1) 2=some [aB x.at'.x,aB x.at'.y]:=(zd Nd.aV 1 2 hx Z).trans rfl;simp[V0,seval,af,h];refine zn (fun jj st=>∃(k:Nat)(R:aS),i-k<=jj/\k<=i/\(p.ns.l.take k).any (fun m=>dR x.at' m.at')=false/\st.aa=p.o::R/\aN 30 st.t [(1,.ptrM d 0 0),(3,iv i),(4,iv k)]) i Z ⟨0,_,Z,Z,M,rfl,by simp[V0,seval,af,cZ]⟩ ?_;clear af;rintro jj2 ⟨t,aa⟩ KB ⟨k,R,hjk,hk,hb,rfl,af⟩ gJ jL kP;simp[za,zb,zf]at af;by_cases h2:k<i
  .have lz:k<p.ns.l.length:=Z;obtain⟨y,hy⟩:=fc (l:=p.ns.l) (i:=k) lz;have r7:bB (p.ns.l.flatMap Nd.c) (k*3+1) 2=some [aB y.at'.x,aB y.at'.y]:=(zd Nd.aV 1 2 hy Z).trans rfl;have hwk:=zt k;cases hq:dR x.at' y.at'
   .unfold dR at hq;simp only[V0,seval,zc p.ns h,zc p.ns lz,zR,j4, *];exact gJ _ (i-(k+1)) Z ⟨k+1,_,Z,Z,zJ hy hb hq,rfl,bS⟩
   .have tM:=hq;unfold dR at tM;simp[V0,seval,zc p.ns h,zc p.ns lz,zR,j4, *];refine kP _ ?_;simp[V0,seval];refine bQ _ ?_;have hf:lF p.ns.l=true:=by refine yl hxz ?_;show(p.ns.l.take i).any (fun m=>dR x.at' m.at')=true;exact yl (q:=fun m=>dR x.at' m.at') (show(p.ns.l.take i)[k]?=some y by grind) hq
    simp[V0,seval,af,hf]
  .simp[V0,seval,af,h2];refine jL _ _ ?_;simp only[V0,seval,af,(zt i)];have hki:k=i:=Z;subst hki;exact bp _ (p.ns.l.length-(k+1)) Z ⟨k+1,_,Z,Z,zJ hxz ha hb,rfl,bS⟩
 .have hdup:lF p.ns.l=false:=by unfold lF;rw[←fT (l:=p.ns.l.zipIdx) (i:=i) (by simp_all)];omega
  simp[V0,seval,af,h];refine bK _ _ ?_;simp[V0,seval,af,hdup]
def RF(xs:List Int)(d id:Nat)(aa:aS)(r:dI×IV×aS):Prop:=(xs=[]/\r=(.r,.nilsl,aa))∨(xs≠[]/\r=(.a,.slM d id 0 xs.length xs.length 1 false,aa.set id (aH (xs.flatMap aK))))
theorem YO{n d:Nat}{o:aS}:∀ xs:List Int,(xs.flatMap aK).mapM (freeze (n+1) d o)=some (xs.flatMap aK)
 |[]=>rfl
 |x::xs=>by have f:freeze (n+1) d o (iv x)=some (iv x):=rfl;rw[eT];simp[aK,gu,fP,mq,f,(YO (n:=n) (d:=d) (o:=o) xs),nY,nZ,iD]
variable {xs:List Int}
theorem FN{id:Nat}{Pre J aa:aS}{lv:IV}(h:bE aK 1 (d+1) Pre.length J lv xs)(hid:aa[id]?=some .free):∃ r,leave (n+1) d (Pre++J) aa id 1 lv=some r/\RF xs d id aa r:=by
 rcases h with⟨rfl,rfl⟩|⟨b,hne,rfl,h2⟩
 .exact⟨_,rfl,.inl ⟨rfl,rfl⟩⟩
 .have eX:seg (xs.flatMap aK) 0 (xs.length*1)=some (xs.flatMap aK):=by unfold seg;exact xeb
  refine⟨_,?_,.inr ⟨hne,rfl⟩⟩;unfold leave;simp only[if_true,handed,zN,h2,eX,YO,dD,hid,zi]
def gD(p:Pn)(jH:Bool):List Int:=bif jH then p.az.l.map Ac.id else p.ns.l.map Nd.id
theorem Rc(hS:bk S)(p:Pn)(h1:p.ns.l.length<=1000000)(h2:p.az.l.length<=1000000)(jH:Bool){id:Nat}{aa:aS}(hm:p.ns.l.length+p.az.l.length+10<=m)(hid:aa[id]?=some .free):∃ r,aL aO S m d ah aJ aa id 132 [.agg p.c,.bool jH]=some r/\RF (gD p jH) d id aa r:=by
 obtain⟨m,rfl⟩:=gv m 2;refine zF (i:=i132) (hS _ _ M M M M) rfl Δ (bP rfl) fun t af=>?_;simp[V2,i132,Pn.c]at af;generalize(fun l=>if l=d then aJ else ah l:bq)=bH
 have fin:∀(t':List IV)(J:aS)(lv:IV),bE aK 1 (d+1) 1 J lv (gD p jH)->aN 48 t' [(4,lv)]->(Out.ret=.normal∨Out.ret=.ret)/\∃ v r,bh (d+1) bH ⟨t',p.o::J⟩ i132.res=some v/\leave (m+1) d (p.o::J) aa id i132.mode v=some r/\RF (gD p jH) d id aa r:=fun t' J lv hO ht=>by simp[za,zb]at ht;obtain⟨r,jE,hr2⟩:=FN (n:=m) (Pre:=[p.o]) hO hid;refine⟨.inr rfl,lv,r,?_,jE,hr2⟩;simp[i132,V0,seval,ht]
 suffices jc:∀ K:eU,(∀(t':List IV)(J:aS)(lv:IV),bE aK 1 (d+1) 1 J lv (gD p jH)->aN 48 t' [(4,lv)]->K .ret ⟨t',p.o::J⟩)->Ex (aL aO S (m+1)) (d+1) bH (m+1) i132.body K ⟨t,[]⟩from jc _ fin
 clear fin;intro K fin;simp[i132,V0,seval,af];refine zn (fun jj st=>∃(i:Nat)(J:aS)(lv:IV),p.ns.l.length-i<=jj/\i<=p.ns.l.length/\(jH=true->i=0)/\bE aK 1 (d+1) 1 J lv ((p.ns.l.take i).map Nd.id)/\st.aa=p.o::J/\aN 48 st.t [(1,.bool jH),(2,.ptrM (d+1) 0 0),(5,lv),(6,iv i)]) p.ns.l.length Z ⟨0,[],.nilsl,Z,Z,fun _=>rfl,.inl ⟨M,rfl⟩,rfl,by simp[V0,seval,af,cZ]⟩ ?_;clear af;rintro jj ⟨t,bJ⟩ KA ⟨i,J,lv,hjj,hi,kX,hO,rfl,af⟩ bp bK bQ;simp[za,zb,zf]at af;have next:∀(t:List IV)(J:aS)(lv:IV),bE aK 1 (d+1) 1 J lv (if jH=true then[]else p.ns.l.map Nd.id)->aN 48 t [(1,.bool jH),(2,.ptrM (d+1) 0 0),(5,lv),(6,iv i)]->KA (.exit 0) ⟨t,p.o::J⟩:=by
  clear af hO lv J t bp bQ;intro t J lv hO af;simp[za,zb,zf]at af;refine bK _ _ ?_;simp[V0,seval];refine zm p.az.l.length (fun i st=>∃(J:aS)(lv:IV),(jH=false->i=0)/\bE aK 1 (d+1) 1 J lv (if jH=true then(p.az.l.take i).map Ac.id else p.ns.l.map Nd.id)/\st.aa=p.o::J/\aN 48 st.t [(1,.bool jH),(2,.ptrM (d+1) 0 0),(5,lv),(7,iv i)]) Z ⟨J,lv,fun _=>rfl,by grind,rfl,by simp[V0,seval,af,cZ]⟩ ?_
  clear af hO lv J t bK;rintro i ⟨t,bJ⟩ KB hi ⟨J,lv,kX,hO,rfl,af⟩ gJ jL kP;simp[za,zb,zf]at af;cases jH with
  |false =>
   by_cases h:i<p.az.l.length
   .exact xc3
   .exact xc3
  |true =>
   by_cases h:i<p.az.l.length
   .obtain⟨x,hx⟩:=fc (l:=p.az.l) (i:=i) h
    have hrd:bB (p.az.l.flatMap Ac.c) (i*6) 1=some [aB x.id]:=xb2
    have hw:=zt i
    rw[bU rfl]at hO
    have au:((p.az.l.take i).map Ac.id).length=i:=by grind
    obtain⟨e,cH,J2,bz,cL⟩:=zI (Pre:=[p.o]) (n0:=J.length+1) (slot:=0) (k:=0) (ah:=bH) (R:=[.free]) ze hO (ys:=[x.id]) M (by grind) (by grind) rfl rfl
    simp[gu,fP,eT,jm,aK,zf,fB,gq,gF,eB]at bz
    rw[←map_take (f:=Ac.id) hx]at cL
    simp only[V0,seval,zc p.az h,rep,zh,zl,zq,zw, *]
    exact gJ Z _ ⟨J2,cH,fun h=>by grind,by grind,rfl,bS⟩
   .simp only[V0,seval,af,h]
    refine jL _ _ ?_
    simp[V0,seval,af]
    rw[bU rfl,fT Z]at hO
    exact fin _ _ lv hO bS
 cases jH with
 |true =>
  have uY:bE aK 1 (d+1) 1 J lv (if true=true then[]else p.ns.l.map Nd.id):=by grind
  by_cases h:i<p.ns.l.length
  .simp only[V0,seval,af,h]
   exact next _ _ lv uY bS
  .simp only[V0,seval,af,h]
   exact next _ _ lv uY bS
 |false =>
  by_cases h:i<p.ns.l.length
  .obtain⟨x,hx⟩:=fc (l:=p.ns.l) (i:=i) h
   have hrd:bB (p.ns.l.flatMap Nd.c) (i*3) 1=some [aB x.id]:=xfn
   have hw:=zt i
   have au:((p.ns.l.take i).map Nd.id).length=i:=by grind
   obtain⟨e,cH,J2,bz,cL⟩:=zI (Pre:=[p.o]) (n0:=J.length+1) (slot:=0) (k:=0) (ah:=bH) (R:=[.free]) ze hO (ys:=[x.id]) M (by grind) (by grind) rfl rfl
   simp[gu,fP,eT,jm,aK,zf,fB,gq,gF,eB]at bz
   rw[←map_take (f:=Nd.id) hx]at cL
   simp only[V0,seval,zc p.ns h,rep,zh,zl,zq,zw, *]
   exact bp _ (p.ns.l.length-(i+1)) Z ⟨i+1,J2,cH,Z,Z,fun h=>by grind,cL,rfl,bS⟩
  .simp only[V0,seval,af,h]
   rw[fT Z]at hO
   exact next _ _ lv (by grind) bS
theorem Dn{off len cap:Nat}{t:Bool}{aa:aS}{c:List IV}(h:aa[i]?=some (aH c)):bl (n+1) d aa (.slM d i off len cap sz t)=((seg c off (len*sz)).bind fun s=>s.mapM (bl n d aa)).map (IV.slC · len sz false):=by
 show (if d=d then match aa[i]? with
    |some (aH c)=>((seg c off (len*sz)).bind fun s=>s.mapM (bl n d aa)).map (IV.slC · len sz false)
    |_=>none
   else none)=_
 grind
theorem JF(hS:bk S)(hx:xs.length<9223372036854775808){aa:aS}{id:Nat}(hm:xs.length+4<=m)(hb:aJ[b]?=some (aH (xs.flatMap aK))):aL aO S m d ah aJ aa id 131 [.slM d b 0 xs.length xs.length 1 false]=some (.r,.bool (dz xs),aa):=by
 have eX:seg (xs.flatMap aK) 0 (xs.length*1)=some (xs.flatMap aK):=by unfold seg;exact xeb
 have hfz:∀ ys:List Int,(ys.flatMap aK).mapM (bl 11 d aJ)=some (ys.flatMap aK):=fun ys=>by
  induction ys with
  |nil=>rfl
  |cons y ys ih =>
   have f:bl 11 d aJ (iv y)=some (iv y):=rfl
   rw[eT]
   simp[aK,gu,fP,mq,f,ih,nY,nZ,iD]
 have Ll:[IV.slM d b 0 xs.length xs.length 1 false].mapM (bl 12 d aJ)=[(gB ze xs xs.length false rfl hx).v].mapM (bl 12 d aJ):=by
  have h1:bl 12 d aJ (.slM d b 0 xs.length xs.length 1 false)=some (gB ze xs xs.length false rfl hx).v:=by rw[Dn hb,eX,iD,hfz];rfl
  have h2:bl 12 d aJ (gB ze xs xs.length false rfl hx).v=some (gB ze xs xs.length false rfl hx).v:=zdy 10 d aJ _;grind
 rw[Ty (hS _ _ M M M M) (hS _ _ M M M M) (i:=i131) rfl rfl Ll];exact G0 hS (gB ze xs xs.length false rfl hx) m hm d ah aJ aa id
def U3(hS:bk S){aa:aS}{id:Nat}(hm:4<=m):aL aO S m d ah aJ aa id 131 [.nilsl]=some (.r,.bool true,aa):=G0 hS (kU 1 aK) m hm d ah aJ aa id
end
def Pre(r:H->H->Int)(xs:List H)(a c:Nat):Prop:=∀ k x y,0<a->a<=k->k<c->xs[a-1]?=some x->xs[k]?=some y->¬ r y x<0
def gT(n:Int):List Int->List Int
 |[]=>[n]
 |x::l=>if x<n then x::gT n l else if x=n then x::l else n::x::l
def gG(l:List Int):List Int:=l.foldl (fun o n=>gT n o) []
theorem xD{n y:Int}:∀{l:List Int},y∈gT n l↔y=n∨y∈l
 |[]=>by simp[gT]
 |x::l=>by
  unfold gT;split
  .rw[eG,xD,eG];grind
  grind
theorem JG{n:Int}:∀{l:List Int},l.Pairwise (·<·)->(gT n l).Pairwise (·<·)
 |[],_=>by simp[gT]
 |x::l,h=>by
  have h2:=vV.1 h;unfold gT;split
  .rw[vV];refine⟨fun y hy=>?_,JG h2.2⟩;rcases xD.1 hy with rfl|hy
   .omega
   grind
  .split
   .omega
   .rw[vV];grind
variable {l:List Int}
theorem CB:∀{o:List Int},o.Pairwise (·<·)->(l.foldl (fun o n=>gT n o) o).Pairwise (·<·)/\∀ y,y∈l.foldl (fun o n=>gT n o) o↔y∈o∨y∈l:=by
 induction l with
 |nil=>grind
 |cons x l ih =>
  intro o h
  obtain⟨h1,h2⟩:=ih (JG h)
  refine⟨h1,fun y=>?_⟩
  rw[List.foldl_cons,h2,xD,eG]
  grind
def It(l:List Int):(gG l).Pairwise (·<·):=(CB .nil).1
theorem xC{y:Int}:y∈gG l↔y∈l:=by have:=(CB (l:=l) .nil).2 y;simpa[gG]using this
theorem AL:∀{l l':List Int},l.Pairwise (·<·)->l'.Pairwise (·<·)->(∀ y,y∈l↔y∈l')->l=l'
 |[],[],_,_,_=>rfl
 |[],y::l',_,_,h=>by have:=(h y).2 (qj ..);grind
 |x::l,[],_,_,h=>by have:=(h x).1 (qj ..);grind
 |x::l,y::l',h1,h2,h=>by
  have g1:=vV.1 h1;have g2:=vV.1 h2;have hxy:x=y:=by
   rcases eG.1 ((h x).1 (qj ..))with e|e
   .omega
   .rcases eG.1 ((h y).2 (qj ..))with e2|e2
    .omega
    grind
  congr 1;refine AL g1.2 g2.2 fun z=>?_;grind
def eW:List Int->List Int
 |x::y::l=>if x=y then eW (y::l)else x::eW (y::l)
 |l=>l
theorem Y8{y:Int}:∀{l:List Int},y∈eW l↔y∈l
 |[]=>by rfl
 |[a]=>by rfl
 |a::b::l=>by
  unfold eW;split
  .rename_i h;subst h;rw[Y8,eG,eG,eG];grind
  .rw[eG,Y8,eG (b:=a)]
theorem zci:∀{l:List Int},l.Pairwise (·<=·)->(eW l).Pairwise (·<·)
 |[],_=>by decide
 |[a],_=>by simp[eW]
 |a::b::l,h=>by
  have g:=vV.1 h;unfold eW;split
  .exact zci g.2
  .rw[vV];refine⟨fun z hz=>?_,zci g.2⟩;have hz:=Y8.1 hz;have g3:=g.1 b (qj ..);have g2:=vV.1 g.2;grind
theorem LX{l':List Int}(hp:l'.Perm l)(hs:l'.Pairwise (·<=·)):eW l'=gG l:=AL (zci hs) (It l) fun y=>by rw[Y8,xC,hp.mem_iff]
section
open Go Go.RowKit
def cW(z:Int):Int:=if aT .i64 (0-z)>z then aT .i64 (0-z)else z
def j8(p:Pn)(z:Int):Bool:=!(z==0||z==-9223372036854775808)&&(mX p (cW z)).isSome
def eC(p:Pn)(z:Int):Int:=bif j8 p z then(bif decide (0<z)then(gM p (cW z)).l else(gM p (cW z)).r)else 0
variable {S:bX}
section
theorem D1(hS:bk S)(p:Pn)(z:Int)(hv:bL p):∃(a:Ac)(N:Nat),(j8 p z=true->a.id=(gM p (cW z)).id/\a.fr=(gM p (cW z)).fr/\a.to=(gM p (cW z)).to/\a.l=(gM p (cW z)).l/\a.r=(gM p (cW z)).r)/\aM S N 235 [.agg p.c,iv z] (.tuple [.agg a.c,.bool (j8 p z)]):=by
 obtain⟨q1,hq1,N1,h1⟩:=ad6 hS p (cW z) (fun f hf=>by have:=hv f hf;omega);have hfz:∀(a:Ac)(b:Bool)(m d:Nat)(aa:aS),6<=m->freeze m d aa (.tuple [.agg a.c,.bool b])=some (.tuple [.agg a.c,.bool b]):=fun a b m d aa hm=>by
  obtain⟨m,rfl⟩:=gv m 6;have:=zP zch a.via (m+4) Z d aa;have hi:∀ z:Int,freeze (m+4) d aa (aB z)=some (aB z):=fun z=>rfl;have ha:freeze (m+5) d aa (.agg a.c)=some (.agg a.c):=by show(a.c.mapM (freeze (m+4) d aa)).map IV.agg=_;simp[Ac.c,zf,mq,qi,this,hi,nY,nZ,iD,iJ]
  exact va ha rfl
 by_cases hz:(z==0||z==-9223372036854775808)=true
 .refine⟨Bl,8,fun h=>?_,?_⟩
  .unfold j8 at h;grind
  .rw[(show j8 p z=false by unfold j8;grind)];refine zr (i:=i235) (hS _ _ M M M M) rfl rfl (bP rfl) (7) fun m hm d ah t af=>?_;simp[V2,i235,Pn.c]at af;cases z0:z==0
   .simp only[i235,V0,seval,af,z0,(show(z==-9223372036854775808)=true by grind)];exact⟨_,rfl,hfz Bl false _ _ _ Z⟩
   .simp only[i235,V0,seval,af,z0];exact⟨_,rfl,hfz Bl false _ _ _ Z⟩
 .have RV:(z==0||z==-9223372036854775808)=false:=by grind
  simp only[Ez]at RV;refine⟨{ gM p (cW z)with via:=q1 },N1+8,fun _=>⟨rfl,rfl,rfl,rfl,rfl⟩,?_⟩;rw[(show j8 p z=(mX p (cW z)).isSome by unfold j8;grind)];refine zr (i:=i235) (hS _ _ M M M M) rfl rfl (bP rfl) (N1+7) fun m hm d ah t af=>?_;simp[V2,i235,Pn.c]at af;have c1:=fun dd oo aJ aa id=>h1 m Z dd oo aJ aa id;simp[(rfl:((p.az.l.find? fun f=>f.id==cW z).getD Bl)=gM p (cW z)),(rfl:(p.az.l.find? fun f=>f.id==cW z).isSome=(mX p (cW z)).isSome),zf,Pn.c,Ac.c]at c1;have aq:(if aT .i64 (0-z)>z then aT .i64 (0-z)else z)=cW z:=rfl
  simp only[ez]at aq;simp only[i235,V0,seval,af,RV.1,RV.2,ez,aq,c1];exact⟨_,rfl,hfz { gM p (cW z)with via:=q1 } _ _ _ _ Z⟩
theorem QV(hS:bk S)(p:Pn)(z:Int)(hv:bL p):∃ N,aM S N 193 [.agg p.c,iv z] (aB (eC p z)):=by
 let⟨a,N,h1,h2⟩:=D1 hS p z hv;refine⟨N+4,?_⟩;refine zg (i:=i193) (hS _ _ M M M M) rfl rfl (bP rfl) (N+3) Z zp fun m hm d ah t af=>?_;simp[V2,i193,Pn.c]at af;have c1:=fun dd oo aJ aa id=>h2 m Z dd oo aJ aa id;simp[zf,Pn.c,Ac.c]at c1;unfold eC;cases hd:j8 p z
 .simp[hd]at c1;simp[i193,V0,seval,af,c1,bT]
 .obtain⟨_,_,_,g4,g5⟩:=h1 hd;simp[hd]at c1;rw[←g4,←g5];cases hz:decide (0<z)
  .simp[i193,V0,seval,af,c1,ez,hz,bV,bT]
  .simp[i193,V0,seval,af,c1,ez,hz,bV]
end
def qG(l:List Int)(z:Int):Int:=match l.findIdx? fun x=>z==x with
 |some i=>(l[(i+l.length-1)%l.length]?).getD 0
 |none=>0
def mW(l:List Ac)(id:Int):Nat:=(l.filter fun a=>a.fr==id).length+(l.filter fun a=>a.to==id).length
theorem Jq(l:List Ac)(id:Int):mW l id<=2*l.length:=by unfold mW;grind
variable {i:Nat}{x:Ac}
theorem vu{l:List Ac}{id:Int}(hx:l[i]?=some x):mW (l.take (i+1)) id=mW (l.take i) id+((if (x.fr==id)=true then 1 else 0)+(if (x.to==id)=true then 1 else 0)):=by unfold mW;rw[jh,hx,oP,MY,MY,mV,mV];grind
theorem UP(hS:bk S)(l:aR 1 aK)(z:Int)(hl:l.l.length<=1000000):aM S (l.l.length+8) 187 [l.v,iv z] (aB (qG l.l z)):=by
 refine zg (i:=i187) (hS _ _ M M M M) rfl rfl (bP rfl) (l.l.length+7) Z zp fun m hm d ah t af=>?_;simp[V2,i187]at af;have c1:=fun dd oo aJ aa id=>DY hS l z m Z dd oo aJ aa id;simp[zf]at c1;unfold qG;unfold fIdx at c1;cases hf:l.l.findIdx? fun x=>z==x with
 |none =>
  simp[hf]at c1
  simp[i187,V0,seval,af,c1,(eq_true M:((-1:Int)<0)=True)]
 |some i =>
  obtain⟨hi,_,_⟩:=EW.1 hf
  simp[hf]at c1
  have e4:Int.tmod ((i+l.l.length-1:Nat):Int) (l.l.length:Int)=(((i+l.l.length-1)%l.l.length:Nat):Int):=(Int.ofNat_tmod _ _).symm
  have hj:(i+l.l.length-1)%l.l.length<l.l.length:=Vo _ Z
  obtain⟨x,hx⟩:=fc (l:=l.l) (i:=(i+l.l.length-1)%l.l.length) hj
  have hv:(l.l[(i+l.l.length-1)%l.l.length]?).getD 0=x:=by grind
  have hv':=hv
  generalize(i+l.l.length-1)%l.l.length=j at e4 hj hx hv
  have hrd:bB (l.l.flatMap aK) (j*1) 1=some [aB x]:=xbu
  simp only[i187,V0,seval,af,c1,(eq_false Z:((i:Int)<0)=False),(oS:aT .i64 ((i:Int)+(l.l.length:Int))=((i+l.l.length:Nat):Int)),(oS:aT .i64 (((i+l.l.length:Nat):Int)-1)=((i+l.l.length-1:Nat):Int)),(eq_false Z:((l.l.length:Int)=0)=False),e4,zc l hj,hrd]
  grind
theorem Me(hS:bk S)(p:Pn)(id:Int)(ha:p.az.l.length<=1000000):aM S (p.az.l.length+4) 192 [.agg p.c,iv id] (aB (mW p.az.l id:Nat)):=by
 refine zg (i:=i192) (hS _ _ M M M M) rfl rfl (bP rfl) (p.az.l.length+3) Z zp fun m hm d ah t af=>?_;simp[V2,i192,Pn.c]at af;simp[i192,V0,seval,af];refine zm p.az.l.length (fun i st=>∃(O:aS),st.aa=p.o::O/\aN 28 st.t [(1,iv id),(8,p.az.v),(9,iv (p.az.l.length:Nat)),(10,iv i),(4,iv (mW (p.az.l.take i) id:Nat))]) Z ⟨[],rfl,by simp only[V0,seval,af,cZ,W3];rfl⟩ ?_;clear af;rintro i ⟨t,aa⟩ KA hi ⟨O,rfl,af⟩ bp bK bQ;simp[za,zb,zf]at af;by_cases h:i<p.az.l.length
 .obtain⟨x,hx⟩:=fc (l:=p.az.l) (i:=i) h;have hrd:bB (p.az.l.flatMap Ac.c) (i*6) 6=some [aB x.id,aB x.fr,aB x.to,x.via.v,aB x.l,aB x.r]:=(zd Ac.aV 0 6 hx Z).trans rfl;have hw:=zt i;have hd:=vu (id:=id) hx;have hle:=Jq (p.az.l.take i) id;rw[ER,ML Z]at hle;generalize mW (p.az.l.take i) id=n0 at af hd hle;have w1:=zt n0;have w2:aT .i64 (((n0+1:Nat):Int)+1)=((n0+1+1:Nat):Int):=oS;cases h1:x.fr==id<;>cases h2:x.to==id<;>rw[h1,h2]at hd<;>simp[nv,if_false,if_true,tY,eB,Xb]at hd
  .exact xbl
  .exact xbl
  .exact xbl
  .exact xbl
 .have hii:i=p.az.l.length:=Z;subst hii;rw[rD]at af;simp[V0,seval,af,h];refine bK _ _ ?_;simp[V0,seval,af]
variable {ah:bq}{d m:Nat}
section
theorem aaa(hS:bk S)(hm:4<=m)(z:Int)(y:Pt)(x0 x2 x3:aP)(L:List (Int×Pt))(bs:List Nat)(ck:Nat)(J:aS)(lv:IV)(xs:List Int)(hO:bE aK 1 d 6 J lv xs)(hx:xs.length<=1000000)(aJ:aS) :
  ∃(cH:IV)(J':aS)(L':List (Int×Pt))(bs':List Nat)(gX:Nat),(∀ id,aL aO S m d ah aJ (x0::aH [lv]::x2::x3::.map (dO L) (dU L) bs ck::aH [.mapM d 4]::J) id 230 [aB z,.agg [aB y.x,aB y.y],.ptrM d 1 0,.ptrM d 5 0]=some (.x,.tuple [],x0::aH [cH]::x2::x3::.map (dO L') (dU L') bs' gX::aH [.mapM d 4]::J'))/\bE aK 1 d 6 J' cH (xs++[z])/\∀(j:Nat)(x:aP),J[j]?=some x->x≠aP.cells (xs.flatMap aK)->J'[j]?=some x:=by
 obtain⟨m,rfl⟩:=gv m 1
 obtain⟨L',bs',gX,_,CZ⟩:=xE L bs ck z y
 obtain⟨e,cH,J2,bz,cL,hkeep⟩:=zcg (Pre:=[x0,aH [lv],x2,x3,.map (dO L) (dU L) bs ck,aH [.mapM d 4]]) (n0:=J.length+1+1+1+1+1+1+1) (slot:=0) (k:=1) (ah:=ah) (R:=[aH [aB y.x,aB y.y],.free]) ze hO (ys:=[z]) M (by grind) (by simp only[fB,gq];omega) rfl rfl
 simp[gu,fP,eT,jm,aK,zf,fB,gq,gF,eB]at bz
 let⟨v1,v2⟩:=cL.one
 have hy:J2[J.length]?=some (aH [aB y.x,aB y.y]):=hkeep J.length _ Z M (.inl (cI _))
 have main:∃ v aU,(∀ id,aL aO S (m+1) d ah aJ (x0::aH [lv]::x2::x3::.map (dO L) (dU L) bs ck::aH [.mapM d 4]::J) id 230 [aB z,.agg [aB y.x,aB y.y],.ptrM d 1 0,.ptrM d 5 0]=some (.x,v,aU))/\(v=.tuple []/\aU=x0::aH [cH]::x2::x3::.map (dO L') (dU L') bs' gX::aH [.mapM d 4]::J2):=by refine yq (i:=i230) (hS _ _ M M M M) rfl rfl (bP rfl) fun t af=>?_;simp[V2,Xb,i230]at af;have FX:=fun C n0 aJ aa t a b c=>CZ C d ah n0 4 aJ aa t a b c;simp only[i230,V0,seval,rep,zh,zl,zq,zw,yB,M5, *];simp
 obtain⟨v,aU,h1,rfl,rfl⟩:=main
 refine⟨cH,J2,L',bs',gX,h1,cL,fun j x hj hne=>?_⟩
 grind
def DP(n:Pt)(L:List (Int×Pt))(x y:Int):Int:=bif pV n (iU L x) (iU L y)then -1 else bif pV n (iU L y) (iU L x)then 1 else 0
theorem GS(hS:bk S)(hm:12<=m)(x y:Int)(nd:Nd)(L:List (Int×Pt))(bs:List Nat)(ck:Nat)(aJ aa:aS)(id:Nat)(h3:aJ[3]?=some (aH nd.c))(h4:aJ[4]?=some (.map (dO L) (dU L) bs ck))(h5:aJ[5]?=some (aH [.mapM d 4])) :
  aL aO S m d ah aJ aa id 232 [aB x,aB y,.ptrM d 3 0,.ptrM d 5 0]=some (.r,aB (DP nd.at' L x y),aa):=by
 refine ZJ (i:=i232) (hS _ _ M M M M) rfl rfl (bP rfl) (N:=11) Z hm zp fun m hm t af=>?_
 simp[V2,Xb,i232]at af
 have k3:((fun l=>if l=d then aJ else ah l:bq) d)[3]?=some (aH nd.c):=by grind
 have k4:((fun l=>if l=d then aJ else ah l:bq) d)[4]?=some (.map (dO L) (dU L) bs ck):=by grind
 have k5:((fun l=>if l=d then aJ else ah l:bq) d)[5]?=some (aH [.mapM d 4]):=by grind
 generalize(fun l=>if l=d then aJ else ah l:bq)=bH at k3 k4 k5 ⊢
 simp[Nd.c,zf]at k3
 have hne:(d=d+1)=False:=eq_false Z
 have au:(d<d+1)=True:=eq_true Z
 have ev:∀(z:Int)(C:Call)(n0:Nat)(aJ aa:aS)(t:List IV)(a b:bD),ρ t a=.mapM d 4->ρ t b=aB z->bY C (d+1) bH n0 aJ aa t (.lookup (.agg [aB 0,aB 0]) (false,[1]) false a b)=some (.r,.agg [aB (iU L z).x,aB (iU L z).y],aa):=fun z C n0 aJ aa t a b h1 h2=>by let⟨r,jE,hr2⟩:=zfg z L;rw[Zy];simp only[e7,h1,h2,look,b9 (show ¬ (d=d+1) by omega),bU (show d<d+1 by omega),k4,jE,iJ,hr2];rfl
 have evx:=ev x
 have evy:=ev y
 have cl:∀(o a b:Pt) dd oo aJ aa i,aL aO S m dd oo aJ aa i 233 [.agg [aB o.x,aB o.y],.agg [aB a.x,aB a.y],.agg [aB b.x,aB b.y]]=some (.r,.bool (pV o a b),aa):=fun o a b dd oo aJ aa i=>UT hS o a b m Z dd oo aJ aa i
 unfold DP
 cases b1:pV nd.at' (iU L x) (iU L y)
 .cases b2:pV nd.at' (iU L y) (iU L x)
  .simp[i232,V0,seval,b2,bT, *]
  .simp[i232,V0,seval,b2,bT,bV, *]
 .simp[i232,V0,seval,bV, *]
end
theorem NS(xs:List Int):∀(i:Nat)(w:IV),(xs.flatMap aK)[i]?=some w->∃ n,w=aB n:=by
 induction xs with
 |nil=>grind
 |cons a l ih =>
  intro i w h
  rw[eT]at h
  cases i with
  |zero=>simp[aK,zf]at h;grind
  |succ i=>simp[aK]at h;grind
theorem Q3{xs:List Int}:aP.cells [aB x.id,aB x.fr,aB x.to,x.via.v,aB x.l,aB x.r]≠aH (xs.flatMap aK):=by
 intro h;have h1:=aP.cells.inj h;have hh:∀(cs:List IV)(k:Nat)(v:IV),Sl 2 cs k v->∀ n:Int,v≠aB n:=fun cs k v hs n he=>by cases hs<;>cases he
 let⟨n,hn⟩:=NS xs _ _ (show(xs.flatMap aK)[3]?=some x.via.v by grind);exact hh _ _ _ x.via.ok n hn
def TE:MB aK (fun z:Int=>aB z) 1 false:=xc8
variable {C:Call}{I:Type}{a:bD}{aJ:aS}{ck j l n0:Nat}{t:List IV}{zv:IV}
section
variable (u:I->IV)
def eD(L:List (Int×I)):List IV:=L.map fun kv=>aB kv.1
def eL(L:List (Int×I)):List IV:=L.map fun kv=>u kv.2
def gR(z:I)(L:List (Int×I))(id:Int):I:=((L.find? fun kv=>id==kv.1).map Prod.snd).getD z
def mI(L:List (Int×I))(id:Int)(y:I):List (Int×I):=match L.findIdx? fun kv=>id==kv.1 with
 |none=>L++[(id,y)]
 |some i=>L.set i (id,y)
variable {u}
theorem zbn(id:Int):∀(L:List (Int×I))(n:Nat),eY (false,[1]) (aB id) (eD L) n=some ((L.findIdx? fun kv=>id==kv.1).map (n+·))
 |[],n=>rfl
 |kv::L,n=>by
  have e:MT (false,[1]) (aB id) (aB kv.1)=some (id==kv.1):=by
   exact xfg
  show(match MT (false,[1]) (aB id) (aB kv.1)with|some true=>some (some n)|some false=>eY (false,[1]) (aB id) (eD L) (n+1)|none=>none)=_
  rw[e];cases h:id==kv.1
  .simp only[(zbn id L (n+1)),Vx,h];exact xeo
  grind
theorem Je(id:Int)(L:List (Int×I)):lC (false,[1]) (aB id) (eD L) (eL u L)=some ((L.find? fun kv=>id==kv.1).map fun kv=>u kv.2):=by
 have h0:(jV false (IV.int .i64 id)&&(IV.int .i64 id).cells.length==[1].length)=true:=rfl;unfold lC;rw[bU h0,zbn];cases h:L.findIdx? fun kv=>id==kv.1 with
 |none =>
  grind
 |some j =>
  let⟨hj,hq,hmin⟩:=EW.1 h
  have h1:(L.find? fun kv=>id==kv.1)=some L[j]:=by rw[zmv];grind
  simp[eL,hj,h1]
theorem II(z:I)(L:List (Int×I))(id:Int):((L.find? fun kv=>id==kv.1).map fun kv=>u kv.2).getD (u z)=u (gR z L id):=by unfold gR;cases L.find? fun kv=>id==kv.1<;>rfl
theorem Ya(z:I){L:List (Int×I)}{bs:List Nat}(id:Int){aa:aS}{b:bD}(hz:zv=u z)(h1:ρ t a=.mapM l j)(h2:ρ t b=aB id)(h3:look d ah aJ l j=some (.map (eD L) (eL u L) bs ck)):bY C d ah n0 aJ aa t (.lookup zv (false,[1]) false a b)=some (.r,u (gR z L id),aa):=by rw[Zy];subst hz;simp only[e7,h1,h2,h3,Je,iJ,II];rfl
theorem YP(z:I){L:List (Int×I)}(id:Int){aa:aS}{b:bD}(hz:zv=u z)(h1:ρ t a=.cR (eD L) (eL u L))(h2:ρ t b=aB id):bY C d ah n0 aJ aa t (.lookup zv (false,[1]) false a b)=some (.p,u (gR z L id),aa):=by rw[Zy];subst hz;simp only[e7,h1,h2,Je,iJ,II];rfl
theorem zdz(z y:I)(L:List (Int×I))(id k:Int):gR z (mI L id y) k=if k=id then y else gR z L k:=by
 unfold mI;cases h:L.findIdx? fun kv=>id==kv.1 with
 |none =>
  rw[zkd]at h
  simp only[gR,List.find?_append]
  grind
 |some i =>
  let⟨hi,hq,hmin⟩:=EW.1 h
  have he:id=L[i].1:=by grind
  have ac8:∀(xgu:List (Int×I))(i:Nat)(hi:i<xgu.length),id=xgu[i].1->(∀ j (hj:j<i),¬ id=(xgu[j]'Z).1)->((xgu.set i (id,y)).find? fun kv=>k==kv.1)=if k=id then some (id,y)else xgu.find? fun kv=>k==kv.1:=by
   intro xgu;induction xgu with
   |nil=>grind
   |cons x xgu ih =>
    intro i hi he hm
    cases i with
    |zero =>
     grind
    |succ i =>
     simp[zk4,zm2]
     have hx:=hm 0 Z
     grind
  have:=ac8 L i hi he (fun j hj=>by grind)
  unfold gR
  grind
theorem Bq(L:List (Int×I))(bs:List Nat)(ck:Nat)(id:Int)(y:I):∃(bs':List Nat)(gX:Nat),∀(C:Call)(D:Nat)(ah:bq)(n0 j:Nat)(aJ aa:aS)(t:List IV)(a b c:bD),ρ t a=.mapM D j->ρ t b=aB id->ρ t c=u y->aa[j]?=some (.map (eD L) (eL u L) bs ck) ->
  bY C D ah n0 aJ aa t (.mapupd (false,[1]) a b c)=some (.x,.tuple [],aa.set j (.map (eD (mI L id y)) (eL u (mI L id y)) bs' gX)):=by
 have hk:(jV false (IV.int .i64 id)&&(IV.int .i64 id).cells.length==[1].length)=true:=rfl
 unfold mI
 cases h:L.findIdx? fun kv=>id==kv.1 with
 |none =>
  refine⟨bs++[ck],ck+1,fun C D ah n0 j aJ aa t a b c h1 h2 h3 h4=>?_⟩
  rw[Z7]
  simp only[fL,h1,h2,h3,h4,hk,MD,if_true,zbn,h,Vu,zi]
  simp[eD,eL]
 |some i =>
  obtain⟨hi,hq,_⟩:=EW.1 h
  have he:id=L[i].1:=by grind
  refine⟨bs,ck,fun C D ah n0 j aJ aa t a b c h1 h2 h3 h4=>?_⟩
  rw[Z7]
  simp only[fL,h1,h2,h3,h4,hk,MD,if_true,zbn,h,iJ,eB,zi]
  have hks:eD (L.set i (id,y))=eD L:=by unfold eD;rw[List.map_set];refine Hj fun k=>?_;grind
  have hvs:eL u (L.set i (id,y))=(eL u L).set i (u y):=by unfold eL;simp
  grind
end
theorem aag(l:List Int):∀ n,(l.flatMap aK).all (nk (n+1))=true:=fun n=>by rw[nu];intro x hx;obtain⟨a,_,ha⟩:=oQ.1 hx;simp[aK,eG,gm,gw]at ha;subst ha;rfl
theorem Y9(q:aR 1 aK)(n:Nat):nk (n+2) q.v=true:=by
 have hh:∀(cs:List IV)(k:Nat)(v:IV),Sl 1 cs k v->cs.all (nk (n+1))=true->nk (n+2) v=true:=fun cs k v h hc=>by
  exact xby
 exact hh _ _ _ q.ok (aag _ _)
variable {H:Type}
def Hf(g:H->List IV)(sz d k0 b0:Nat)(J:aS)(lv:IV)(xs:List H):Prop:=(xs=[]/\lv=.nilsl)∨∃ b,b0<=b/\xs≠[]/\lv=.slM d (k0+b) 0 xs.length xs.length sz false/\J[b]?=some (aH (xs.flatMap g))
variable {J R:aS}{b0 k slot sz:Nat}{lv:IV}{xs ys:List H}
theorem Oo{g:H->List IV}(hs:∀ a,(g a).length=sz){Pre:aS}(h:Hf g sz d Pre.length b0 J lv xs)(hb0:b0<=J.length)(hy:ys.length≠0)(hx:xs.length+ys.length<=1073741824)(hk:n0+slot=Pre.length+(J.length+k))(hf:R[k]?=some .free)
  (hsc:(ys.flatMap g).all IV.scalar=true) :
  ∃ e cH J2,aY d n0 (look d ah (Pre++(J++R))) (Pre++(J++R)) sz lv (ys.flatMap g) ys.length slot=some (e,cH,Pre++J2)/\Hf g sz d Pre.length b0 J2 cH (xs++ys)/\(∀ j,j<b0->J2[j]?=(J++R)[j]?)/\J2.length=(J++R).length:=by
 have lz:k<R.length:=(ew.1 hf).1
 have gU:(J++R)[J.length+k]?=some .free:=by grind
 have au:J.length+k<(J++R).length:=by grind
 have hne:xs++ys≠[]:=by simp_all
 rcases h with⟨rfl,rfl⟩|⟨b,kK,_,rfl,h2⟩
 .rw[yp hy xa1]
  unfold dD
  rw[hk,zN,gU]
  simp only[zi]
  rw[yd]
  exact xdu
 .have hb:b<J.length:=(ew.1 h2).1
  have fE:(J++R)[b]?=some (aH (xs.flatMap g)):=by grind
  rw[zQ hy hx (zj hs) hsc xcw]
  unfold iG
  rw[hk,zN,gU]
  simp only[zi]
  rw[yd,yd]
  exact xdu
variable {k0:Nat}
theorem KZ{g:H->List IV}(hs:∀ a,(g a).length=sz){Pre:aS}(hk0:Pre.length=k0)(h:Hf g sz d k0 b0 J lv xs)(hb0:b0<=J.length)(hy:ys.length≠0)(hx:xs.length+ys.length<=1073741824)(hk:n0+slot=k0+(J.length+k))(hf:R[k]?=some .free)
  (hsc:(ys.flatMap g).all IV.scalar=true) :
  ∃ e cH J2,aY d n0 (look d ah (Pre++(J++R))) (Pre++(J++R)) sz lv (ys.flatMap g) ys.length slot=some (e,cH,Pre++J2)/\Hf g sz d k0 b0 J2 cH (xs++ys)/\(∀ j,j<b0->J2[j]?=(J++R)[j]?)/\J2.length=(J++R).length:=by
 subst hk0
 exact Oo hs h hb0 hy hx hk hf hsc
theorem Oc(L:List (Int×I))(id:Int)(y:I):(mI L id y).length<=L.length+1:=by unfold mI;grind
variable {F:FuncId->Option gP}{args:List IV}{f:FuncId}{tight:Bool}
section
theorem Tn{i:gP}{c:List IV}{len cap:Nat}(hS:S f args=none)(hi:F f=some i)(hm:i.mode=1)(N:Nat)(hfz:∀ x∈c,Fz k x)(hk:k<=N)(hc:c.length=cap*sz)
  (h:∀ m,N<=m->∀ d ah,Ex (aL F S m) d ah m i.body (aea d ah i.res c len cap sz tight) ⟨args++List.replicate (i.ntmps-args.length) (.tuple []),[]⟩) :
  ∀ m,N+1<=m->∀ d ah aJ aa id,aa[id]?=some .free->aL F S m d ah aJ aa id f args=some (.a,.slM d id 0 len cap sz tight,aa.set id (aH c)):=by
 intro m hN d ah aJ aa id hf
 obtain⟨m,rfl⟩:=gv m 1
 exact xal
end
variable {b:Nat}{tg tt:Bool}
section
theorem Dg(hS:bk S)(n:Nat)(h0:0<n)(hn:n<=1073741824):∀ m,3<=m->∀ d ah aJ aa id,aa[id]?=some .free->aL aO S m d ah aJ aa id 181 [.nilsl,iv n]=some (.a,.slM d id 0 0 n 1 false,aa.set id (aH (rep [aB 0] n))):=by
 refine Tn (i:=i181) (hS _ _ M M M M) rfl rfl 2 (k:=1) (Fp fun x hx=>?_) Z ?_ fun m hm d ah=>?_
 .simp[eG,gm,gw]at hx;rcases hx with rfl;exact zp
 .rw[yN];rfl
 .have hb:n<=bound:=by unfold bound;omega
  have fE:0+n<=bound:=Z;simp only[i181,W0,ef,gZ,kr,e8,ig,fG,jy,lE,lD,fI,ij,fH,bF,jG,oy,dD,List.replicate,look,ql,lX,bA,dh,Bs,dX,jY,Xb,Xc,Xd,reduceCtorEq,Xe,(show decide ((n:Int)<0)=false by simp),Gc,nP,uh,ug hn,(show decide ((n:Int)>0)=true by grind),yM,dA,kI,OB,zY,zh,Ee,bU hb,zq,yp Z hb,RH,qZ,zm8,Ew,JX,Vq,En];simp
theorem Gx(hS:bk S)(xs:List Int)(h0:0<xs.length)(hn:xs.length<=1000000){cap:Nat}{aa:aS}{id:Nat}(hl:l<=d)(hb:(if l=d then aJ else ah l)[b]?=some (aH (xs.flatMap aK)))(hid:aa[id]?=some .free) :
  ∀ m,8<=m->aL aO S m d ah aJ aa id 148 [.slC [.slM l b 0 xs.length cap 1 tg] 1 1 tt]=some (.a,.slM d id 0 xs.length xs.length 1 false,aa.set id (aH (xs.flatMap aK))):=by
 intro m hm
 obtain⟨m,rfl⟩:=gv m 1
 have hg:=fun d ah aJ=>Dg hS xs.length h0 Z m Z d ah aJ [.free] 0 rfl
 have hR:(rep [aB 0] xs.length).length=xs.length:=by rw[yN];simp
 have hfz:∀(o:aS),(xs.flatMap aK).mapM (freeze m (d+1) o)=some (xs.flatMap aK):=fun o=>by obtain⟨q,rfl⟩:∃ q,m=q+1:=⟨m-1,Z⟩;exact YO xs
 have hsc:(xs.flatMap aK).all IV.scalar=true:=nu.2 fun x hx=>xbq
 have hfl:(xs.flatMap aK).length=xs.length:=by rw[zj ze];omega
 generalize hRR:rep [aB 0] xs.length=R at hg hR
 have hw:dS R 0 (xs.flatMap aK)=xs.flatMap aK:=by have:=z8 (B:=xs.flatMap aK) (A:=[]) (R:=R) (k:=0) rfl Z;grind
 have eX:seg (xs.flatMap aK) 0 (xs.length*1)=some (xs.flatMap aK):=xgo
 have main:∃ r,aL aO S (m+1) d ah aJ aa id 148 [.slC [.slM l b 0 xs.length cap 1 tg] 1 1 tt]=some r/\r=(.a,.slM d id 0 xs.length xs.length 1 false,aa.set id (aH (xs.flatMap aK))):=by
  refine zF (i:=i148) (hS _ _ M M M M) rfl Δ (bP rfl) fun t af=>?_;simp[V2,Xb,i148]at af;have hb':((fun l=>if l=d then aJ else ah l:bq) l)[b]?=some (aH (xs.flatMap aK)):=hb
  clear hb;generalize(fun l=>if l=d then aJ else ah l:bq)=bH at hb' ⊢
  have a1:=fun n0 slot=>Yo (d:=d+1) (n0:=n0) (sz:=1) (len:=0) (cap:=xs.length) (n:=xs.length) (slot:=slot) (ah:=bH) (c:=R) (new:=xs.flatMap aK) (J:=[.free]) (tight:=false) Z Z Z Z hsc;have agx:∀ aa,look (d+1) bH aa l b=some (aH (xs.flatMap aK)):=fun aa=>xez
  obtain⟨k,rfl⟩:∃ k,m=k+1+1+1+1:=⟨m-4,Z⟩;simp only[zf]at hg;simp[eB,tY,qZ,hw]at a1;simp only[i148,V0,seval,af,yJ,yK,(show decide ((0:Int)<((1:Nat):Int))=true by rfl),(show decide ((1:Int)<((1:Nat):Int))=false by rfl),(zA rfl Z Z:aT .i64 1=1),(show decide ((0:Int)<1)=true by rfl),(show decide ((1:Int)<1)=false by rfl),Yp (show 0<1 by omega),YJ,(oS:aT .i64 (0+((xs.length:Nat):Int))=((xs.length:Nat):Int)),nlt,hg,zh,zl,zq,bW,(show ¬ l=d+1 by omega),(show l<d+1 by omega),hb',eX,a1,qZ];refine⟨.inr trivial,_,_,rfl,?_,rfl⟩;simp only[leave,if_true,handed,rH,eX,hfz,dD,hid,zi]
 grind
end
def WT(x y:Int):(x != y)=!(x==y):=rfl
theorem zao:∀(l:List Int)(y x:Int),eW (l++[y,x])=if y=x then eW (l++[y])else eW (l++[y])++[x]
 |[],y,x=>by simp only[fP,eW];grind
 |[a],y,x=>by have ih:=zao [] y x;simp[fP]at ih;simp[gu,fP];rw[eW];rw[ih];simp only[eW];grind
 |a::b::l,y,x=>by have ih:=zao (b::l) y x;simp[gu]at ih ⊢;rw[eW,ih,eW];grind
theorem zfi{xs:List Int}{y x:Int}(hj:0<j)(hy:xs[j-1]?=some y)(hx:xs[j]?=some x):eW (xs.take (j+1))=if y=x then eW (xs.take j)else eW (xs.take j)++[x]:=by
 have h1:xs.take (j+1)=xs.take (j-1)++[y,x]:=by rw[jh,hx,show j=(j-1)+1 by omega,jh,hy];simp
 have h2:xs.take j=xs.take (j-1)++[y]:=by
  conv=>lhs;rw[show j=(j-1)+1 by omega,jh,hy]
  simp
 rw[h1,h2,zao]
def adu(d:Nat)(aa:aS)(z:List IV)(sz:Nat)(v:IV):jI :=
 match v with
  |.nilsl=>some (.x,.tuple [],aa)
  |.slM l i off len _ sz0 _=>if len=0 then some (.x,.tuple [],aa)else if sz0=sz then lS d aa l i off (rep z len) (.tuple [])else none
  |_=>none
def Uq{aa:aS}(z:List IV)(sz:Nat)(x:bD):bY C d ah n0 aJ aa t (.clr z sz x)=adu d aa z sz (ρ t x):=aI
theorem BV:∀ n,(rep [IV.int .i64 0] n).all IV.scalar=true
 |0=>rfl
 |n+1=>by simp[rep,gu,fP,oO,BV n,JY];rfl
theorem BW:∀ n,rep [IV.int .i64 0] n=(List.replicate n (0:Int)).flatMap aK
 |0=>rfl
 |n+1=>by rw[List.replicate_succ,eT,←BW n];rfl
variable {cB:aS}{n:Nat}
theorem aay{q cap:Nat}{ys:List Int}(hb:b<cB.length)(hl:ys.length=n)(hq:q<n):adu d (Bk cB b (ys.flatMap aK)++R) [aB 0] 1 (.slM d b q (n-q) cap 1 tg)=some (.x,.tuple [],Bk cB b ((ys.take q++List.replicate (n-q) 0).flatMap aK)++R):=by
 have hw:dS (ys.flatMap aK) q (rep [aB 0] (n-q))=(ys.take q++List.replicate (n-q) 0).flatMap aK:=by rw[(show ys.flatMap aK=(ys.take q).flatMap aK++(ys.drop q).flatMap aK by rw[←Bh,MJ]),z8 (show((ys.take q).flatMap aK).length=q by rw[zj ze,ER];omega).symm (by rw[yN,zj ze,RL];grind),BW,Sj (by rw[zj ze,zj ze,RL,List.length_replicate];omega),gF,←Bh]
 simp only[adu,b9 (show ¬ n-q=0 by omega),if_true,lS,zfd hb];rw[bU ⟨trivial,by rw[yN,(show(ys.flatMap aK).length=n by rw[zj ze];omega)];grind,BV _⟩];simp[zi,AH hb,hw]
theorem DT(hS:bk S)(hb:b<cB.length)(xs:List Int){cap:Nat}(hl0:xs.length=n)(h0:0<n)(hn:n<65536)(hcap:n<=cap):∀ m,n+10<=m->∀ d ah aJ J,∃ c:List Int,c.length=n/\c.take (eW xs).length=eW xs/\∀ id,aL aO S m d ah aJ (Bk cB b (xs.flatMap aK)++J) id 150 [.slM d b 0 n cap 1 tg]=some (.x,.slM d b 0 (eW xs).length cap 1 tg,Bk cB b (c.flatMap aK)++J):=by
 intro m hm d ah aJ J;obtain⟨m,rfl⟩:=gv m 1;have main:∃ v aU,(∀ id,aL aO S (m+1) d ah aJ (Bk cB b (xs.flatMap aK)++J) id 150 [.slM d b 0 n cap 1 tg]=some (.x,v,aU))/\(∃ c:List Int,c.length=n/\c.take (eW xs).length=eW xs/\v=.slM d b 0 (eW xs).length cap 1 tg/\aU=Bk cB b (c.flatMap aK)++J):=by
  refine yq (i:=i150) (hS _ _ M M M M) rfl rfl (bP rfl) fun t af=>?_;simp[V2,Xb,i150]at af;have hE:=TE;cases hs:decide ((n:Int)<2);rotate_left
  .have h1:n=1:=by grind
   have hc:eW xs=xs:=by
    match xs,hl0 with
    |[a],_=>rfl
    |[],h=>rfl
    |_::_::_,h=>grind
   simp only[i150,V0,seval,af,hs,ya,M5];grind
  simp[i150,V0,seval,af,hs];refine zn (fun jj st=>∃(k:Nat),jj=n-k/\1<=k/\k<=n/\eW (xs.take k)=xs.take k/\st.aa=Bk cB b (xs.flatMap aK)++J/\aN 61 st.t [(0,.slM d b 0 n cap 1 tg),(3,iv k)]) (n-1) Z ⟨1,rfl,Z,Z,?_,rfl,by simp[V0,seval,af,Sh]⟩ ?_
  .match xs,hl0 with
   |[],h=>rfl
   |a::_,_=>rfl
  clear af;rintro jj ⟨t,aa⟩ KA ⟨k,hjj,hk1,hkn,qS,rfl,af⟩ bp bK bQ;simp[za,zb,zf]at af;by_cases h:k<n;rotate_left
  .have hk:k=n:=Z;simp[V0,seval,af,h];refine bK _ _ ?_;simp only[V0,seval,af,yB,ya,M5];grind
  have hwk:aT .i64 ((k:Int)-1)=((k-1:Nat):Int):=oS;have ae2:k-1<n:=Z;obtain⟨x,hx⟩:=fc (l:=xs) (i:=k) Z;have lx:=hE.ld hx;obtain⟨y,hy⟩:=fc (l:=xs) (i:=k-1) Z;have ly:=hE.ld hy;have hst:=zfi Z hy hx;cases hxy:(x==y)
  .simp only[V0,seval,af,L1,L2 hb hE,h,ae2,hwk,lx,ly,hxy,(zt k)];refine bp _ (n-(k+1)) Z ⟨k+1,rfl,Z,Z,?_,rfl,bS⟩;rw[hst,b9 (fun e=>by grind),qS,jh,hx];rfl
  .rw[bU (by grind),qS]at hst;simp only[V0,seval,af,L1,L2 hb hE,h,ae2,hwk,lx,ly,hxy,yM,dA,kI,zY,hkn,hcap,(show k<=cap by omega),cI,MD,eB,JX,jg];refine zn (fun jj st=>∃(q k2:Nat)(ys:List Int),jj=n-(k+k2)/\1<=k2/\k+k2<=n/\q<k+k2/\ys.length=n/\ys.take q=eW (xs.take (k+k2))/\(∀ j,k+k2<=j+1->ys[j]?=xs[j]?)/\st.aa=Bk cB b (ys.flatMap aK)++J/\aN 61 st.t [(0,.slM d b 0 n cap 1 tg),(3,iv q),(4,.slM d b (k*1) (n-k) (cap-k) 1 tg),(5,iv k2)]) (n-(k+1)) Z ⟨k,1,xs,Z,Z,Z,Z,hl0,hst.symm,fun _ _=>rfl,rfl,by simp[V0,seval,af,Sh]⟩ ?_;clear af;rintro jj ⟨t,aa⟩ KB ⟨q,k2,ys,hjj,hk2,hkk,hqk,hly,o8,hel,rfl,af⟩ gJ jL kP;simp only[V3]at af;by_cases h2:k2<n-k
   .have hwj:aT .i64 ((k2:Int)-1)=((k2-1:Nat):Int):=oS;have aev:=zt k2;have hj1:k2-1<n-k:=Z;have e1:k*1+k2*1=(k+k2)*1:=Z;have e2:k*1+(k2-1)*1=(k+k2-1)*1:=Z;obtain⟨u,hu⟩:=fc (l:=ys) (i:=k+k2) Z;have lu:=hE.ld hu;obtain⟨v,hv⟩:=fc (l:=ys) (i:=k+k2-1) Z;have lv:=hE.ld hv;have OZ:=zfi (xs:=xs) (j:=k+k2) Z (by rw[←hel _ Z];omega) (by rw[←hel _ Z];omega);cases huv:(u==v)
    .rw[b9 (fun e=>by grind)]at OZ;simp only[V0,seval,af,L1,L2 hb hE,h2,hj1,hwj,e1,e2,lu,lv,WT,huv,Hg,(show q<n by omega),(zt q),aev,hly];refine gJ _ (n-(k+(k2+1))) Z ⟨q+1,k2+1,ys.set q u,rfl,Z,Z,Z,by grind,?_,fun j hj=>?_,rfl,bS⟩
     .rw[←tq,OZ,jh,vW Z,List.take_set_of_le (cI _),o8];rfl
     grind
    .rw[bU (by grind)]at OZ;simp only[V0,seval,af,L1,L2 hb hE,h2,hj1,hwj,e1,e2,lu,lv,WT,huv,ME,aev];exact gJ _ (n-(k+(k2+1))) Z ⟨q,k2+1,ys,rfl,Z,Z,Z,hly,by grind,fun j hj=>hel j Z,rfl,bS⟩
   .have ahn:k+k2=n:=Z;have hcx:ys.take q=eW xs:=by grind
    have ae8:(eW xs).length=q:=by grind
    simp only[V0,seval,af,h2];refine jL _ _ ?_;simp only[V0,seval,af,yM,dA,kI,zY,(show q<=n by omega),hcap,(show q<=cap by omega),cI,MD,eB,JX,jg,Uq,zmz,(aay (cB:=cB) (R:=J) (d:=d) (cap:=cap-q) (tg:=tg) hb hly (show q<n by omega)),RH,ya,M5,zm8,qZ];refine bQ _ ?_;simp only[V0,seval,af,ya,M5];grind
 grind
theorem ZA{lk:Nat->Nat->Option aP}{x:IV}:bW lk 1 (.slC [x] 1 1 tight)=some ([x],1):=by rfl
theorem KU{J0 J':aS}(h:∀ j,j<J0.length->J'[j]?=J0[j]?)(hl:J0.length<=J'.length):∃ R,J'=J0++R:=⟨J'.drop J0.length,by
 refine Hj fun j=>?_;grind⟩
theorem KY{g:H->List IV}(hs:∀ a,(g a).length=sz){Pre:aS}(hk0:Pre.length=k0)(h:bE g sz d k0 J lv xs)(hy:ys.length≠0)(hx:xs.length+ys.length<=1073741824)(hk:n0+slot=k0+(J.length+k))(hf:R[k]?=some .free)
  (hsc:(ys.flatMap g).all IV.scalar=true) :
  ∃ e cH J2,aY d n0 (look d ah (Pre++(J++R))) (Pre++(J++R)) sz lv (ys.flatMap g) ys.length slot=some (e,cH,Pre++J2)/\bE g sz d k0 J2 cH (xs++ys)/\(∀ j x,j≠J.length+k->(J++R)[j]?=some x->x≠aH (xs.flatMap g)->J2[j]?=some x)/\J2.length=(J++R).length:=by
 subst hk0
 have lz:k<R.length:=(ew.1 hf).1
 have gU:(J++R)[J.length+k]?=some .free:=by grind
 have au:J.length+k<(J++R).length:=by grind
 have hne:xs++ys≠[]:=by simp_all
 rcases h with⟨rfl,rfl⟩|⟨b,_,rfl,h2⟩
 .rw[yp hy xa1]
  unfold dD
  rw[hk,zN,gU]
  simp only[zi]
  rw[yd]
  refine⟨_,_,_,rfl,.inr ⟨J.length+k,hne,M,?_⟩,fun j x hj hx2 _=>?_,M⟩
  .grind
  grind
 .have hb:b<J.length:=(ew.1 h2).1
  have fE:(J++R)[b]?=some (aH (xs.flatMap g)):=by grind
  rw[zQ hy hx (zj hs) hsc xcw]
  unfold iG
  rw[hk,zN,gU]
  simp only[zi]
  rw[yd,yd]
  refine⟨_,_,_,rfl,.inr ⟨J.length+k,hne,M,?_⟩,fun j x hj hx2 xR=>?_,M⟩
  .grind
  grind
def Sb(z:IV×List Int):List IV:=[z.1]
def Ju(z:IV×List Int):(Sb z).length=1:=rfl
def aeb(D k0 B:Nat)(xs:List Int)(J:aS)(L:List (IV×List Int)):Prop:=∀ z∈L,(∃ b,z.1=.slM D (k0+b) 0 z.2.length z.2.length 1 false/\J[b]?=some (aH (z.2.flatMap aK)))/\(∃ h r,z.2=h::r/\h∈xs)/\z.2.length<=B
variable {D:Nat}
theorem WE{B:Nat}{xs:List Int}{L:List (IV×List Int)}(hL:aeb D k0 B xs J L){h:Int}{r:List Int}:aP.cells ((h::r).flatMap aK)≠aH (L.flatMap Sb):=by
 intro he;cases L with
 |nil=>simp[aK]at he
 |cons z L =>
  obtain⟨⟨b,hb,_⟩,_⟩:=hL z (qj ..)
  have h1:=aP.cells.inj he
  rw[eT,eT]at h1
  simp only[aK,zf,Sb,gu,fP,List.cons.injEq,hb]at h1
  grind
def gp(q:aR 1 aK):List IV:=[q.v]
def zx(q:aR 1 aK):(gp q).length=1:=rfl
variable {c':List IV}
theorem Ue{len:Nat}{aa:aS}{c:List IV}(hb:aa[b]?=some (aH c))(hc:c.length=len)(hm:c.mapM (freeze n D aa)=some c'):freeze (n+1) D aa (.slM D b 0 len len 1 false)=some (.slC c' len 1 false):=by
 have eX:seg c 0 (len*1)=some c:=by unfold seg;rw[zi,bU Z,s7,fT Z]
 simp only[freeze,if_true,hb,eX,iD,hm,iJ,dZ]
theorem aaw{n D:Nat}{aa:aS}(hn:2<=n):∀{L:List (IV×List Int)},(∀ z∈L,(∃ b,z.1=.slM D b 0 z.2.length z.2.length 1 false/\aa[b]?=some (aH (z.2.flatMap aK)))/\z.2.length<9223372036854775808/\z.2≠[])->∃ cs:List (aR 1 aK),cs.map (·.l)=L.map Prod.snd/\(L.flatMap Sb).mapM (freeze n D aa)=some (cs.flatMap gp)
 |[],_=>⟨[],rfl,rfl⟩
 |z::L,h=>by
  obtain⟨cs,h1,h2⟩:=aaw hn (L:=L) fun x hx=>h x (tj _ hx);let⟨⟨b,hv,hb⟩,hl,hne⟩:=h z (qj ..);have hz:=yy (g:=aK) (Pre:=[]) (J:=aa) (d:=D) (m:=n) (lv:=z.1) (xs:=z.2) ze (fun a x hx=>by
   simp[aK,eG,gm,gw]at hx;subst hx;exact zp) hn hl (.inr ⟨b,hne,by grind,hb⟩)
  rw[fP]at hz;refine⟨bZ ze z.2 hl::cs,by rw[mQ,mQ,h1,zM],?_⟩;simp[eT,Sb,gp,gu,fP,mq,hz,nY,nZ,iD];grind
theorem Qu(q:aR 1 gp)(n:Nat):nk (n+3) q.v=true:=by
 have hh:∀(cs:List IV)(k:Nat)(v:IV),Sl 1 cs k v->cs.all (nk (n+2))=true->nk (n+3) v=true:=fun cs k v h hc=>by
  exact xby
 refine hh _ _ _ q.ok ?_;rw[nu];intro x hx;obtain⟨a,_,ha⟩:=oQ.1 hx;simp[gp,eG,gm,gw]at ha;subst ha;exact Y9 a n
theorem TC{z:I}{L:List (Int×I)}{id:Int}:gR z L id=z∨gR z L id∈L.map Prod.snd:=by
 unfold gR;cases h:L.find? fun kv=>id==kv.1 with
 |none=>simp
 |some kv=>grind
def afq(m d:Nat)(ah:bq)(rs:List mY)(Q:IV->Prop)(o:Out)(st:St):Prop:=(o=.normal∨o=.ret)/\∃ v w,bh d ah st rs=some v/\freeze m d st.aa v=some w/\Q w
variable {Q:IV->Prop}
section
variable {rs:List mY} {st:St}
def y3:afq m d ah rs Q .ret st=∃ v w,bh d ah st rs=some v/\freeze m d st.aa v=some w/\Q w:=xbc
end
theorem ZK{i:gP}{aa:aS}{id:Nat}(hS:S f args=none)(hi:aO f=some i)(hm:i.mode=0)(hl:args.length<=i.ntmps)
  (h:∀ t,aN i.ntmps t (slotsOf 0 args)->Ex (aL aO S m) (d+1) (fun l=>if l=d then aJ else ah l) m i.body (afq m (d+1) (fun l=>if l=d then aJ else ah l) i.res Q) ⟨t,[]⟩):∃ v,aL aO S (m+1) d ah aJ aa id f args=some (.r,v,aa)/\Q v:=by
 have main:∃ r,aL aO S (m+1) d ah aJ aa id f args=some r/\∃ v,r=(dI.r,v,aa)/\Q v:=by refine zF hS hi Z hl fun t ht=>(h t ht).mono ?_;rintro o st ⟨h1,v,w,h2,h3,h4⟩;exact⟨h1,v,_,h2,by rw[hm];simp[leave,h3],w,rfl,h4⟩
 grind
theorem yT{p:Pn}(h:bL p)(id:Int):2<=(dW p id).length/\(dW p id).length<=100002:=by have:=adj h id;unfold dW;grind
theorem Gs(hS:bk S)(p:Pn)(gV:bL p)(z:Int):∃ N,∀ m,N<=m->∃(a:Ac)(q':aR 2 Pt.c),(cQ p (cW z)=true->q'.l=dW p (cW z))/\(∀ d ah aJ aa id,aL aO S m d ah aJ aa id 235 [.agg p.c,iv z]=some (.r,.tuple [.agg a.c,.bool (j8 p z)],aa)) /\
  ∀ d ah aJ aa id,aL aO S m d ah aJ aa id 189 [.agg p.c,iv (cW z)]=some (.r,.tuple [q'.v,iv (bif cQ p (cW z)then 0 else 7)],aa):=by
 obtain⟨a,N1,_,h1⟩:=D1 hS p z gV
 let⟨q',h2,N2,h3⟩:=Il hS p (cW z) gV
 exact⟨N1+N2,fun m hm=>⟨a,q',h2,h1 m Z,h3 m Z⟩⟩
def mw(q:aR 2 Pt.c):IV:=q.v
def qv:aR 2 Pt.c:=kU _ _
theorem Fy(q:aR 2 Pt.c)(n:Nat):nk (n+2) q.v=true:=by
 have hh:∀(cs:List IV)(k:Nat)(v:IV),Sl 2 cs k v->cs.all (nk (n+1))=true->nk (n+2) v=true:=fun cs k v h hc=>by
  exact xby
 refine hh _ _ _ q.ok ?_;rw[nu];intro x hx;obtain⟨a,_,ha⟩:=oQ.1 hx;simp[Pt.c,eG,gm,gw]at ha;rcases ha with rfl|rfl<;>rfl
theorem Ol(L:List (Int×aR 2 Pt.c))(n:Nat):nk (n+3) (.cR (eD L) (eL mw L))=true:=by
 simp[nk,kE,nu];refine⟨fun x hx=>?_,fun x hx=>?_⟩
 .obtain⟨a,_,rfl⟩:=kO.1 hx;rfl
 .obtain⟨a,_,rfl⟩:=kO.1 hx;exact Fy _ _
theorem Oj{aa:aS}(hn:4<=n){L:List (Int×aR 2 Pt.c)}{bs:List Nat}(h:aa[i]?=some (.map (eD L) (eL mw L) bs ck)):freeze n D aa (.mapM D i)=some (.cR (eD L) (eL mw L)):=by
 obtain⟨n,rfl⟩:=gv n 1;have h1:(eD L).mapM (freeze n D aa)=some (eD L):=zD fun x hx=>xfl
 have h2:(eL mw L).mapM (freeze n D aa)=some (eL mw L):=zD fun x hx=>by obtain⟨a,_,rfl⟩:=kO.1 hx;exact zP zch a.2 n Z _ _
 simp[freeze,if_true,h,h1,h2]
theorem uI:∀(L:List (Int×aR 2 Pt.c)),∃ B,∀ kv∈L,kv.2.l.length<=B
 |[]=>⟨0,fun _ h=>by grind⟩
 |x::L=>by let⟨B,hB⟩:=uI L;refine⟨B+x.2.l.length,fun kv h=>?_⟩;grind
variable {id':Nat}
section
theorem yU{i:gP}{Cp aa:aS}{id:Nat}(hS:S f args=none)(hi:aO f=some i)(hm:i.mode=2):aL aO S m d ah aJ aa id f args=aL aO S m d ah Cp aa id' f args:=by
 cases m with
 |zero=>rfl
 |succ m=>simp[aL,hS,hi,hm,if_true]
end
structure jl where
 tw:Int
 oc:aR 1 aK
 iv:IV
 ic:List (aR 1 aK)
 av:IV
 al:List Int
def iT(a:jl):List IV:=[aB a.tw,a.oc.v,a.iv,a.av]
def yg(a:jl):(iT a).length=4:=rfl
theorem CH{i:gP}{aa:aS}{id:Nat}(hS:S f args=none)(hi:aO f=some i)(hm:i.mode=0):aL aO S m d ah aJ aa id f args=aL aO S m d ah aJ aa id' f args:=by
 cases m with
 |zero=>rfl
 |succ m =>
  simp[aL,hS,hi,hm,b9 (show ¬ (0=2) by simp),b9 (show ¬ (0=3) by simp),b9 (show ¬ (4<=0%7) by simp),yG (show(0:Nat)≠7 by simp),leave,b9 (show ¬ (0=1) by simp)]
def dH(g:H->List IV)(sz d k0:Nat)(B:Nat->Nat)(τ:Nat)(J:aS)(lv:IV)(xs:List H):Prop:=(xs=[]/\lv=.nilsl)∨∃ b,xs≠[]/\lv=.slM d (k0+b) 0 xs.length xs.length sz false/\J[b]?=some (aH (xs.flatMap g))/\B b=τ
variable {B:Nat->Nat}{τ:Nat}
section
variable {g:H->List IV} 
theorem dH.more(h:dH g sz d k0 B τ J lv xs)(r:aS):dH g sz d k0 B τ (J++r) lv xs:=by
 rcases h with h|⟨b,hne,h1,h2,h3⟩
 .exact .inl h
 .exact .inr ⟨b,hne,h1,by grind,h3⟩
theorem dH.len(h:dH g sz d k0 B τ J lv xs){aa:aS}:iY D ah aJ aa 1 lv=some (.p,aB (xs.length:Nat),aa):=by rcases h with⟨rfl,rfl⟩|⟨b,_,rfl,_⟩<;>rfl
def dH.rO(h:dH g sz d k0 B τ J lv xs):lv.scalar=true:=xfm
def dH.cells(h:dH g sz d k0 B τ J lv xs):lv.cells=[lv]:=xfm
def Ci(B:Nat->Nat)(nb τ:Nat):Nat->Nat:=fun j=>if j=nb then τ else B j
theorem yE(hs:∀ a,(g a).length=sz){Pre:aS}(hk0:Pre.length=k0)(h:dH g sz d k0 B τ J lv xs)(hy:ys.length≠0)(hx:xs.length+ys.length<=1073741824)(hk:n0+slot=k0+(J.length+k))(hf:R[k]?=some .free)(hsc:(ys.flatMap g).all IV.scalar=true) :
  ∃ e cH J2,(∀ lk:Nat->Nat->Option aP,(∀ j x,j<k0+J.length->(Pre++(J++R))[j]?=some x->lk d j=some x)->aY d n0 lk (Pre++(J++R)) sz lv (ys.flatMap g) ys.length slot=some (e,cH,Pre++J2))/\(e=.a∨∃ i s,e=.k i s)/\dH g sz d k0 (Ci B (J.length+k) τ) τ J2 cH (xs++ys)/\J2.length=(J++R).length /\
   ∀{I:Type}{g':I->List IV}{sz' τ':Nat}{ru:IV}{zs:List I},τ'≠τ->dH g' sz' d k0 B τ' J ru zs->dH g' sz' d k0 (Ci B (J.length+k) τ) τ' J2 ru zs:=by
 subst hk0
 have lz:k<R.length:=(ew.1 hf).1
 have gU:(J++R)[J.length+k]?=some .free:=by grind
 have au:J.length+k<(J++R).length:=by grind
 have hne:xs++ys≠[]:=by simp_all
 rcases h with⟨rfl,rfl⟩|⟨b,_,rfl,h2,h3⟩
 .refine⟨.a,.slM d (n0+slot) 0 ys.length ys.length sz false,(J++R).set (J.length+k) (aH (ys.flatMap g)),fun lk _=>?_,.inl rfl,.inr ⟨J.length+k,hne,by grind,?_,bU rfl⟩,M,fun{I g' sz' τ' ru zs} hτ hO=>?_⟩
  .rw[yp hy xa1]
   unfold dD
   rw[hk,zN,gU]
   simp only[zi]
   simp
  .grind
  .rcases hO with hO|⟨b,hne,h1,h2,h3⟩
   .exact .inl hO
   .have hb:=(ew.1 h2).1
    refine .inr ⟨b,hne,h1,?_,?_⟩
    .grind
    .unfold Ci
     grind
 .have hb:b<J.length:=(ew.1 h2).1
  have fE:(J++R)[b]?=some (aH (xs.flatMap g)):=by grind
  refine⟨.k (Pre.length+b) (n0+slot),.slM d (n0+slot) 0 (xs.length+ys.length) (xs.length+ys.length) sz false,((J++R).set b .gone).set (J.length+k) (aH (xs.flatMap g++ys.flatMap g)),fun lk hlk=>?_,.inr ⟨_,_,rfl⟩,.inr ⟨J.length+k,hne,by grind,?_,bU rfl⟩,M,fun{I g' sz' τ' ru zs} hτ hO=>?_⟩
  .rw[zQ hy hx (zj hs) hsc (hlk _ _ Z (by grind))]
   unfold iG
   rw[hk,zN,gU]
   simp only[zi]
   simp
  .grind
  .rcases hO with hO|⟨b',hne,h1,h2',h3'⟩
   .exact .inl hO
   .have hb':=(ew.1 h2').1
    have qT:b≠b':=fun he=>hτ (by grind)
    refine .inr ⟨b',hne,h1,?_,?_⟩
    .grind
    .unfold Ci
     grind
theorem dH.fJ{g':I->List IV}{sz' τ':Nat}{ru:IV}{zs:List I}{o:aP}(hb:B b=τ)(hτ:τ'≠τ)(hO:dH g' sz' d k0 B τ' J ru zs):dH g' sz' d k0 B τ' (J.set b o) ru zs:=by
 rcases hO with hO|⟨b',hne,h1,h2,h3⟩
 .exact .inl hO
 .have qT:b≠b':=fun he=>hτ (by grind);exact .inr ⟨b',hne,h1,by grind,h3⟩
end
theorem zfj{g:H->List IV}(hs:∀ a,(g a).length=sz){aa:aS}(hf:(xs.flatMap g).mapM (freeze n D aa)=some c')(hb:aa[b]?=some (aH (xs.flatMap g))):freeze (n+1) D aa (.slM D b 0 xs.length xs.length sz false)=some (.slC c' xs.length sz false):=by
 have eX:seg (xs.flatMap g) 0 (xs.length*sz)=some (xs.flatMap g):=by unfold seg;rw[zi,zj hs,bU Z,s7,fT (by rw[zj hs];omega)]
 simp[freeze,if_true,hb,eX,iD,hf,iJ,dZ]
theorem ZT{g:H->List IV}(hs:∀ a,(g a).length=sz){Pre:aS}(hk0:Pre.length=k0)(hf:∀ a,∀ x∈g a,Fz n x)(hx:xs.length<9223372036854775808)(h:dH g sz D k0 B τ J lv xs):freeze (n+1) D (Pre++J) lv=some (bZ hs xs hx).v:=by
 subst hk0;rcases h with⟨rfl,rfl⟩|⟨b,hne,rfl,h2,_⟩
 .rfl
 .have hm:(xs.flatMap g).mapM (freeze n D (Pre++J))=some (xs.flatMap g):=zD fun x hx=>by obtain⟨a,_,ha⟩:=oQ.1 hx;exact hf a x ha n (cI _) _ _
  rw[zfj hs hm (by grind)];cases xs with
  |nil=>grind
  |cons x xs=>rfl
theorem Bo:∀{vs a b:List IV}{k:Nat},k+vs.length<=a.length->dS (a++b) k vs=dS a k vs++b
 |[],_,_,_,_=>rfl
 |v::vs,a,b,k,h=>by simp[fB]at h;simp[dS];rw[zl1 _ _ Z];exact Bo (by grind)
theorem uj:∀{vs a b:List IV}{k:Nat},dS (a++b) (a.length+k) vs=a++dS b k vs
 |[],_,_,_=>rfl
 |v::vs,a,b,k=>by simp only[dS];rw[zlu _ _ Z,znu,tq];exact uj
theorem y4{H:Type}{g:H->List IV}{sz:Nat}(hs:∀ a,(g a).length=sz):∀{xs:List H}{i k:Nat}{x x':H}{vs:List IV},xs[i]?=some x->k+vs.length<=sz->g x'=dS (g x) k vs->dS (xs.flatMap g) (i*sz+k) vs=(xs.set i x').flatMap g
 |[],i,k,x,x',vs,h,_,_=>by grind
 |y::xs,0,k,x,x',vs,h,hk,he=>by simp[rH,iw]at h;subst h;rw[RP,eT,eT,he,qZ,eB,Bo (by grind)]
 |y::xs,i+1,k,x,x',vs,h,hk,he=>by simp[rG]at h;rw[zk4,eT,eT,←y4 hs h hk he,show(i+1)*sz+k=(g y).length+(i*sz+k) by grind,uj]
def kV:aR 1 aK:=kU _ _
structure iP(D:Nat)(U:List (aR 1 aK))(n1 n2 n3:Nat)(J:aS)(B:Nat->Nat)(lv:IV)(A:List jl)(rv:IV)(rc:List (aR 1 aK)):Prop where
 l:dH iT 4 D 1 B 0 J lv A
 ne:A≠[]
 len:A.length<=n1+1
 r:dH gp 1 D 1 B 1 J rv rc
 rl:rc.length<=n1
 rU:∀ c∈rc,c∈U
 el:∀ i a,A[i]?=some a->dH gp 1 D 1 B (2+2*i) J a.iv a.ic/\dH aK 1 D 1 B (3+2*i) J a.av a.al/\a.ic.length<=n2/\a.al.length<=n3/\(∀ c∈a.ic,c∈U)/\(0<i->a.oc∈U)/\a.oc∈kV::U
variable {A:List jl}{U rc:List (aR 1 aK)}{n1 n2 n3:Nat}{rv:IV}
section
theorem iP.more(h:iP D U n1 n2 n3 J B lv A rv rc)(r:aS):iP D U n1 n2 n3 (J++r) B lv A rv rc :=
 ⟨h.l.more r,h.ne,h.len,h.r.more r,h.rl,h.rU,fun i a ha=>by
  let⟨h1,h2,h3⟩:=h.el i a ha;exact ⟨h1.more r,h2.more r,h3⟩⟩
theorem iP.blk(h:iP D U n1 n2 n3 J B lv A rv rc):∃ b,lv=.slM D (1+b) 0 A.length A.length 4 false/\J[b]?=some (aH (A.flatMap iT))/\B b=0:=by
 exact xen
theorem iP.set{m2 m3:Nat}{J2:aS}{B2:Nat->Nat}{a a':jl}(h:iP D U n1 n2 n3 J B lv A rv rc)(hl:lv=.slM D (1+b) 0 A.length A.length 4 false)(hb:J2[b]?=some (aH (A.flatMap iT)))(hB:B2 b=0)(ha:A[i]?=some a)(hoc:a'.oc=a.oc)
  (hr:dH gp 1 D 1 B2 1 J2 rv rc) (hm2:n2<=m2) (Wi:n3<=m3)
  (hel:∀ j x,A[j]?=some x->j≠i->dH gp 1 D 1 B2 (2+2*j) J2 x.iv x.ic/\dH aK 1 D 1 B2 (3+2*j) J2 x.av x.al)
  (h1:dH gp 1 D 1 B2 (2+2*i) J2 a'.iv a'.ic) (h2:dH aK 1 D 1 B2 (3+2*i) J2 a'.av a'.al) (h3:a'.ic.length<=m2) (h4:a'.al.length<=m3) (h5:∀ c∈a'.ic,c∈U) :
  iP D U n1 m2 m3 (J2.set b (aH ((A.set i a').flatMap iT))) B2 lv (A.set i a') rv rc:=by
 refine⟨.inr ⟨b,fun he=>h.ne (by simp_all),by grind,vW (ew.1 hb).1,hB⟩,fun he=>h.ne (by simp_all),by rw[Vv];exact h.len,dH.fJ hB Z hr,h.rl,h.rU,fun j x hx=>?_⟩
 by_cases hj:j=i
 .subst hj
  rw[vW (ew.1 ha).1]at hx
  cases hx
  obtain⟨_,_,_,_,_,h6,h7⟩:=h.el j a ha
  exact⟨dH.fJ hB Z h1,dH.fJ hB Z h2,h3,h4,h5,by grind,by grind⟩
 .rw[EV (Se hj)]at hx
  obtain⟨_,_,g3,g4,g5⟩:=h.el j x hx
  let⟨g1,g2⟩:=hel j x hx hj
  exact⟨dH.fJ hB Z g1,dH.fJ hB Z g2,Z,Z,g5⟩
end
def AR{a:jl}(ha:A[k]?=some a)(hj:j+1<=4):bB (A.flatMap iT) (k*4+j) 1=bB (iT a) j 1:=zd yg j 1 ha hj
theorem iP.oc(h:iP D U n1 n2 n3 J B lv A rv rc):∀ a∈A,a.oc∈kV::U:=fun a ha=>by let⟨i,hi⟩:=rj ha;exact(h.el i a hi).2.2.2.2.2.2
structure Ar where
 tw:Int
 oc:aR 1 aK
 ic:aR 1 gp
 al:aR 1 aK
def kD(a:Ar):List IV:=[aB a.tw,a.oc.v,a.ic.v,a.al.v]
def Zt(a:Ar):(kD a).length=4:=rfl
def A9(U:List (aR 1 aK))(l:List Ar):Prop:=l≠[]/\l.length<=U.length+1/\∀ i a,l[i]?=some a->a.ic.l.length<=U.length/\(∀ c∈a.ic.l,c∈U)/\(0<i->a.oc∈U)/\a.oc∈kV::U
theorem D3{f:IV->Option IV}{Q:jl->Ar->Prop}:∀{A:List jl},(∀ a∈A,∃ a',Q a a'/\(iT a).mapM f=some (kD a'))->∃ As:List Ar,As.length=A.length/\(∀(i:Nat)(a:jl),A[i]?=some a->∃ a',As[i]?=some a'/\Q a a')/\(A.flatMap iT).mapM f=some (As.flatMap kD)
 |[],_=>⟨[],rfl,fun i a h=>by grind,rfl⟩
 |a::A,h=>by
  obtain⟨As,h1,h2,h3⟩:=D3 (A:=A) fun x hx=>h x (tj _ hx);let⟨a',hq,hm⟩:=h a (qj ..);refine⟨a'::As,by grind,fun i x hx=>?_,?_⟩
  .grind
  grind
theorem abd{i h:Int}(h1:1<=i)(h2:i<=4611686018427387904)(hh:h=i∨h=aT .i64 (0-i)):cW h=i:=by
 have w1:aT .i64 (0-i)=-i:=zA Z Z Z;rcases hh with rfl|rfl
 .unfold cW;omega
 .unfold cW;rw[w1,show aT .i64 (0 - -i)=i from zA Z Z Z,bU Z]
theorem Q0(q:aR 4 kD)(n:Nat):nk (n+4) q.v=true:=by
 have hh:∀(cs:List IV)(k:Nat)(v:IV),Sl 4 cs k v->cs.all (nk (n+3))=true->nk (n+4) v=true:=fun cs k v h hc=>by
  exact xby
 refine hh _ _ _ q.ok ?_;rw[nu];intro x hx;obtain⟨a,_,ha⟩:=oQ.1 hx;simp[kD,eG,gm,gw]at ha;rcases ha with rfl|rfl|rfl|rfl
 .rfl
 .exact Y9 _ _
 .exact Qu _ _
 .exact Y9 _ _
theorem G9(hS:bk S)(a:Ar)(ha:a.ic.l.length<=65536):∃ q:aR 1 gp,q.l=a.oc::a.ic.l/\aM S 10 194 [.agg (kD a)] q.v:=by
 have hoc:Fz 3 a.oc.v:=zP (fun a x hx=>by
  simp[aK,eG,gm,gw]at hx;subst hx;exact zp) a.oc
 by_cases h0:a.ic.l.length=0
 .refine⟨gB zx [a.oc] 1 true rfl Z,by rw[uc.1 h0];rfl,zr (i:=i194) (hS _ _ M M M M) rfl rfl (bP rfl) 9 fun m hm d ah t af=>?_⟩;simp[slotsOf,za,zb,i194,kD]at af;have hap:∀ n0 lk (aa:aS),aY d n0 lk aa 1 (.slC [a.oc.v] 1 1 true) (a.ic.l.flatMap gp) a.ic.l.length 0=some (.r,.slC [a.oc.v] 1 1 true,aa):=fun n0 lk aa=>by unfold aY;grind
  simp only[i194,V0,seval,af,rep,zh,zl,zq,zB,hap];refine⟨_,rfl,?_⟩;exact xW (k:=3) (fun x hx=>by
   grind) m Z _ _
 .have hlen:(a.oc::a.ic.l).length=1+a.ic.l.length:=by grind
  refine⟨gB zx (a.oc::a.ic.l) (1+a.ic.l.length) false hlen Z,rfl,zr (i:=i194) (hS _ _ M M M M) rfl rfl (bP rfl) 9 fun m hm d ah t af=>?_⟩;simp[slotsOf,za,zb,i194,kD]at af;have hap:∀ lk (b:aP),aY d 1 lk [b,.free] 1 (.slC [a.oc.v] 1 1 true) (a.ic.l.flatMap gp) a.ic.l.length 0=some (.a,.slM d 1 0 (1+a.ic.l.length) (1+a.ic.l.length) 1 false,[b,aH ((a.oc::a.ic.l).flatMap gp)]):=fun lk b=>by unfold aY;rw[b9 h0];simp only;rw[bU ⟨by unfold bound;omega,trivial⟩];simp[seg,zi,dD,gp]
  simp only[i194,V0,seval,af,rep,zh,zl,zq,zB,hap];refine⟨_,rfl,?_⟩;have:=yo (k:=3) (m:=m) (d:=d) (i:=1) (n:=1+a.ic.l.length) (aa:=[aH (kD a),aH ((a.oc::a.ic.l).flatMap gp)]) (tight:=false) (g:=gp) (fun c x hx=>by
   simp[gp,eG,gm,gw]at hx;subst hx;exact zP (fun a x hx=>by
    simp[aK,eG,gm,gw]at hx;subst hx;exact zp) c) Z hlen zx rfl
  exact this
theorem Zo:∀{n:Nat}{v:IV},nk n v=true->Fz n v
 |0,v,h=>by simp[nk]at h
 |n+1,v,h=>fun m hm lv aa=>by obtain⟨m,rfl⟩:=gv m 1;have ih:∀{cs:List IV},cs.all (nk n)=true->cs.mapM (freeze m lv aa)=some cs:=fun h=>zD fun c hc=>Zo (nu.1 h c hc) m Z lv aa;cases v<;>simp only[nk,kE,nv]at h<;>simp only[freeze]<;>first|rfl|grind|grind
def ON(f:Ft):Int:=bif bN f.kind==3 then f.kind else 0
def dP(f:Ft):List (Int×Int):=bif bN f.kind==2 then[]else f.parts.l.map fun x=>(ON f,x)
def rV(p:Pn)(f:Ft)(x:Int):Bool:=bif bN f.kind==1 then(cT p x).isSome else bif bN f.kind==2 then(mX p x).isSome else bif bN f.kind==3 then p.fs.l.contains x else false
def GL(f:Ft):Bool:=decide ((64:Int)<(f.parts.l.length:Int))
def GK(f:Ft):Bool:=decide (f.id<1)||(decide (1073741824<f.id)||(decide (f.cls<1)||decide (9<f.cls)))
def GJ(f:Ft):Bool:=bN f.kind==0
def GI(nm:ByteArray->Int)(f:Ft):Bool:=!(f.name.1.toList==(bs []).toList)&&(nm f.name.1 != 0)
def GH(f:Ft):Bool:=(f.parts.l.length:Int)==0||(bN f.kind==1&&decide ((1:Int)<(f.parts.l.length:Int)))
def L8(p:Pn)(f:Ft):Bool:=f.parts.l.any fun x=>!rV p f x
def Ux(fs:List Ft):Bool:=!dz (fs.map Ft.id)||fs.any fun f=>!dz f.parts.l
def adl(fs:List Ft):Bool:=!decide (fs.flatMap dP).Nodup
def uz(nm:ByteArray->Int)(p:Pn)(fs:List Ft):Int:=bif decide ((128:Int)<(fs.length:Int))then 3 else bif fs.any GL then 3 else bif Ux fs then 10 else bif fs.any GK then 2 else bif fs.any GJ then 9 else bif fs.any (GI nm)then 14 else bif fs.any GH then 1 else bif fs.any (L8 p)then 7 else bif adl fs then 13 else 0
theorem ZB:∀{l:List Int},dz l=true↔l.Pairwise (·<·)
 |[]=>by decide
 |[a]=>by simp[dz]
 |a::b::t=>by
  rw[dz,kE,pM,(ZB (l:=b::t)),vV (a:=a)];constructor
  .rintro⟨h1,h2⟩;refine⟨fun x hx=>?_,h2⟩;rcases eG.1 hx with rfl|hx
   .omega
   .exact Int.lt_trans h1 ((vV.1 h2).1 x hx)
  simp_all
variable {nm:ByteArray->Int}{qb:Nat->Bool}
section
def je(qb:Nat->Bool)(n:Nat):Bool:=(List.range n).any qb
theorem zap:je qb (n+1)=(je qb n||qb n):=by simp[je,zmc]
theorem Mt(h:i<n)(hq:qb i=true):je qb n=true:=by unfold je;grind
theorem G5{q:H->Bool}{l:List H}(h:∀ i x,l[i]?=some x->qb i=q x):je qb l.length=l.any q:=by
 rw[Hh];simp[je,Bj,vU];constructor
 .rintro⟨i,hi,hq⟩;exact⟨l[i],gQ hi,by grind⟩
 .rintro⟨x,hx,hq⟩;obtain⟨i,hi,rfl⟩:=RO.1 hx;exact⟨i,hi,by grind⟩
theorem OV(hS:bk S)(l:aR 5 Ft.c)(qb:Nat->Bool)(gf:FuncId)(caps:List IV)(Inv:Nat->List aP->Prop)(IY:∀ k J R,Inv k J->Inv k (J++R))(hm:l.l.length+10<=m)
  (hc:∀ k x J,l.l[k]?=some x->je qb k=false->Inv k J->∃ e J',(∀ id,aL aO S m D ah J J id gf (.agg x.c::caps)=some (e,.bool (qb k),J'))/\Inv (k+1) J') (aa:aS) (h0:Inv 0 aa) :
  ∃(r:Int)(aU:aS),(∀ aJ id,aL aO S (m+1) D ah aJ aa id 120 [l.v,.fn gf [] caps]=some (.x,aB r,aU))/\decide (0<=r)=je qb l.l.length/\∃ k,k<=l.l.length/\Inv k aU:=by
 have main:∃ v aU,(∀ id,aL aO S (m+1) D ah [] aa id 120 [l.v,.fn gf [] caps]=some (.x,v,aU))/\(∃ r:Int,v=aB r/\decide (0<=r)=je qb l.l.length/\∃ k,k<=l.l.length/\Inv k aU):=by
  refine yq (i:=i120) (Cz hS) rfl rfl (bP rfl) fun t af=>?_;simp only[V2,i120]at af;have hlf:=l.eZ;simp only[i120,V0,seval,af];refine zm l.l.length (fun i st=>∃(O:aS),je qb i=false/\Inv i O/\st.aa=O/\aN 19 st.t [(0,l.v),(1,.fn gf [] caps),(7,iv (l.l.length:Nat)),(8,iv i)]) Z ⟨aa,rfl,h0,rfl,by simp only[V0,seval,af,cZ]⟩ ?_;clear af;rintro i ⟨t,aa⟩ KA hi ⟨O,ha,hI,rfl,af⟩ bp bK bQ;simp only[V3]at af;by_cases h:i<l.l.length
  .obtain⟨x,hx⟩:=fc (l:=l.l) (i:=i) h;have hrd:bB (l.l.flatMap Ft.c) (i*5) 5=some [aB x.id,aB x.kind,aB x.cls,.str x.name.1,x.parts.v]:=(zd Ft.aV 0 5 hx Z).trans rfl;have hw:=zt i;obtain⟨e,J',cc,hI'⟩:=hc i x _ hx ha (IY _ _ [.free] hI);simp only[Ft.c,zf]at cc;cases hq:qb i
   .simp only[V0,seval,zc l h, *];exact bp Z _ ⟨_,by rw[zap,ha,hq];rfl,hI',rfl,bS⟩
   .simp only[V0,seval,zc l h, *];refine bQ _ ?_;simp only[V0,seval,af,ya];exact⟨_,rfl,_,rfl,by rw[Mt h hq];simp,i+1,Z,hI'⟩
  .simp only[V0,seval,af,h];refine bK _ _ ?_;simp only[V0,seval,af,ya];obtain rfl:i=l.l.length:=Z;exact⟨_,rfl,_,rfl,by rw[ha];decide,l.l.length,Z,hI⟩
 obtain⟨v,aU,h1,r,rfl,h2,h3⟩:=main
 exact⟨r,aU,fun aJ id=>(yU (Cz hS) rfl rfl).trans (h1 0),h2,h3⟩
theorem zfk(hS:bk S)(l:aR 5 Ft.c)(qb:Nat->Bool)(gf:FuncId)(caps:List IV)(Inv:Nat->List aP->Prop)(IY:∀ k J R,Inv k J->Inv k (J++R))(hm:l.l.length+10<=m)
  (hc:∀ k x J,l.l[k]?=some x->je qb k=false->Inv k J->∃ e J',(∀ id,aL aO S m D ah J J id gf (.agg x.c::caps)=some (e,.bool (qb k),J'))/\Inv (k+1) J') (aa:aS) (h0:Inv 0 aa) :
  ∃ aU:aS,(∀ aJ id,aL aO S (m+2) D ah aJ aa id 58 [l.v,.fn gf [] caps]=some (.x,.bool (je qb l.l.length),aU))/\∃ k,k<=l.l.length/\Inv k aU:=by
 have main:∃ v aU,(∀ id,aL aO S (m+1+1) D ah [] aa id 58 [l.v,.fn gf [] caps]=some (.x,v,aU))/\(v=.bool (je qb l.l.length)/\∃ k,k<=l.l.length/\Inv k aU):=by refine yq (i:=i58) (hS _ _ M M M M) rfl rfl (bP rfl) fun t af=>?_;simp[V2,i58]at af;obtain⟨r,aU,sD,hr,hI⟩:=OV hS l qb gf caps Inv IY hm hc (aa++[.free]) (IY _ _ _ h0);simp only[i58,V0,seval,af,sD,l7,hr,ya];simp[*]
 obtain⟨v,aU,h1,rfl,h3⟩:=main
 exact⟨aU,fun aJ id=>(yU (hS _ _ M M M M) rfl rfl).trans (h1 0),h3⟩
theorem LQ(hS:bk S)(l:aR 5 Ft.c)(q:Ft->Bool)(gf:FuncId)(caps:List IV)(aa:aS)(hm:l.l.length+10<=m)
  (hc:∀ x∈l.l,∀ R id,aL aO S m D ah (aa++R) (aa++R) id gf (.agg x.c::caps)=some (.r,.bool (q x),aa++R)) :
  ∃ R:aS,∀ aJ id,aL aO S (m+2) D ah aJ aa id 58 [l.v,.fn gf [] caps]=some (.x,.bool (l.l.any q),aa++R):=by
 obtain⟨aU,h1,k,_,R,rfl⟩:=zfk (D:=D) (ah:=ah) hS l (fun k=>((l.l[k]?).map q).getD false) gf caps (fun _ J=>∃ R,J=aa++R) (fun k J R ⟨R0,h⟩=>⟨R0++R,by grind⟩) hm
  (fun k x J hx _ ⟨R,hJ⟩=>⟨.r,J,fun id=>by
   grind,R,hJ⟩) aa ⟨[],M⟩
 refine⟨R,fun aJ id=>?_⟩
 rw[h1 aJ id,G5 (q:=q) (l:=l.l) fun i x hx=>by grind]
theorem zbo(hS:bk S)(k:Int):aM S 2 51 [iv k] (aB (bN k)):=by
 refine zg (i:=i51) (hS _ _ M M M M) rfl rfl (bP rfl) 1 Z zp fun m hm d ah t af=>?_;simp[slotsOf,za,zb,i51,zf]at af;unfold bN;cases h1:k==1;rotate_left
 .simp[i51,V0,seval,af,h1,k9,bV]
 cases h2:k==2;rotate_left
 .simp[i51,V0,seval,af,h1,h2,k9,jg,bV]
 cases h8:k==8;rotate_left
 .simp[i51,V0,seval,af,h1,h2,h8,jg,bV]
 cases h3:k==3;rotate_left
 .exact xgb
 cases h4:k==4;rotate_left
 .simp[i51,V0,seval,jg,bV,bT, *]
 cases h5:k==5;rotate_left
 .exact xgb
 cases h6:k==6;rotate_left
 .exact xgb
 cases h7:k==7
 .simp[i51,V0,seval,jg,bT, *]
 .simp[i51,V0,seval,jg,bV,bT, *]
theorem ad3(hS:bk S)(f:Ft):aM S 2 47 [.agg f.c] (.bool (GL f)):=by refine zg (i:=i47) (hS _ _ M M M M) rfl rfl (bP rfl) 1 Z zk fun m hm d ah t af=>?_;simp[slotsOf,za,zb,i47,Ft.c,zf]at af;simp[i47,V0,seval,af,GL,ez]
theorem ad2(hS:bk S)(f:Ft):aM S 2 49 [.agg f.c] (.bool (GK f)):=by
 refine zg (i:=i49) (hS _ _ M M M M) rfl rfl (bP rfl) 1 Z zk fun m hm d ah t af=>?_;simp[slotsOf,za,zb,i49,Ft.c,zf]at af;unfold GK;cases h1:decide (f.id<1)
 .cases h2:decide (1073741824<f.id)
  .cases h3:decide (f.cls<1)
   .simp only[i49,V0,seval,af,ez,h1,h2,h3,jg]
   .simp only[i49,V0,seval,af,ez,h1,h2,h3,jg,k9]
  .simp only[i49,V0,seval,af,ez,h1,h2,jg,k9]
 .simp only[i49,V0,seval,af,h1,k9]
theorem ad1(hS:bk S)(f:Ft):aM S 4 50 [.agg f.c] (.bool (GJ f)):=by refine zg (i:=i50) (hS _ _ M M M M) rfl rfl (bP rfl) 3 Z zk fun m hm d ah t af=>?_;simp[slotsOf,za,zb,i50,Ft.c,zf]at af;have c0:=zbo hS f.kind m Z;simp[zf]at c0;simp[i50,V0,seval,af,GJ,c0]
def Mx(S:bX)(nm:ByteArray->Int):Prop:=∀ s:{ s:ByteArray // s.size<=maxLen },aM S 20 53 [.str s.1] (aB (nm s.1))
theorem ad0(hS:bk S)(hN:Mx S nm)(f:Ft):aM S 24 52 [.agg f.c] (.bool (GI nm f)):=by
 refine zg (i:=i52) (hS _ _ M M M M) rfl rfl (bP rfl) 23 Z zk fun m hm d ah t af=>?_;simp[slotsOf,za,zb,i52,Ft.c,zf]at af;unfold GI;cases h1:f.name.1.toList==(bs []).toList
 .simp only[i52,V0,seval,af,(fun d ah aJ aa id=>hN f.name m Z d ah aJ aa id),h1,mE]
 .simp only[i52,V0,seval,af,h1,mE,dZ]
theorem adz(hS:bk S)(f:Ft):aM S 4 54 [.agg f.c] (.bool (GH f)):=by
 refine zg (i:=i54) (hS _ _ M M M M) rfl rfl (bP rfl) 3 Z zk fun m hm d ah t af=>?_;simp[slotsOf,za,zb,i54,Ft.c,zf]at af;have c0:=zbo hS f.kind m Z;simp[zf]at c0;unfold GH;cases h1:(f.parts.l.length:Int)==0
 .cases h2:bN f.kind==1
  .simp only[i54,V0,seval,af,c0,h1,h2,jg,dZ]
  .simp only[i54,V0,seval,af,c0,h1,h2,ez,jg]
 .simp only[i54,V0,seval,af,h1,k9]
theorem QU(hS:bk S)(l:aR 1 aK):aM S (l.l.length+4) 112 [l.v] (.bool (dz l.l)):=by
 refine PA i112 hS (l.l.length+3) zk fun m hm d ah t af=>?_;simp only[slotsOf,za,zb,i112]at af;have hlf:=l.eZ;simp only[i112,V0,seval];exact aC
end
theorem OU(hS:bk S)(l:aR 1 aK)(q:Int->Bool)(gf:FuncId)(caps:List IV)(Nc D:Nat)(B:aS)(hc:∀ x∈l.l,∀ m,Nc<=m->∀ d ah aJ aa id,D<d->ah D=B->aL aO S m d ah aJ aa id gf (iv x::caps)=some (.r,.bool (q x),aa)) :
  ∀ m,Nc+l.l.length+4<=m->∀ d ah aJ aa id,D<d->ah D=B->aL aO S m d ah aJ aa id 160 [l.v,.fn gf [] caps]=some (.r,aB (fIdx q l.l),aa):=fun m hm d ah aJ aa id hd hB=>by
 refine ZJ (i:=i160) (N:=Nc+l.l.length+3) (Cz hS) rfl rfl (bP rfl) Z Z zp fun m hm t af=>?_
 have Px:(fun a=>if a=d then aJ else ah a:bq) D=B:=by
  show(if D=d then aJ else ah D)=B
  rw[b9 Z,hB]
 generalize(fun a=>if a=d then aJ else ah a:bq)=bH at Px ⊢
 simp only[V2,i160]at af
 simp only[i160,V0,seval,af]
 have hlf:=l.eZ
 refine zm l.l.length (fun i st=>∃(O:aS),(l.l.take i).findIdx? q=none/\st.aa=O/\aN 19 st.t [(0,l.v),(1,.fn gf [] caps),(7,iv (l.l.length:Nat)),(8,iv i)]) Z ⟨[],M,rfl,by simp only[V0,seval,af,cZ]⟩ ?_
 rintro i ⟨t,aa⟩ KA hi ⟨O,ha,rfl,af⟩ bp bK bQ
 simp only[V3]at af
 by_cases h:i<l.l.length
 .have hx:l.l[i]?=some l.l[i]:=dw h
  have hmem:l.l[i]∈l.l:=gQ h
  generalize l.l[i]=x at hx hmem
  have hrd:bB (l.l.flatMap aK) (i*1) 1=some [aB x]:=xbu
  have hw:=zt i
  have cc:=fun aJ aa id=>hc x hmem m Z (d+1) bH aJ aa id Z Px
  simp only[zf]at cc
  cases hq:q x
  .simp only[V0,seval,zc l h, *]
   refine bp Z _ ⟨_,?_,rfl,bS⟩
   rw[jh,hx,oP,zlc,ha]
   simp[Vx,hq]
  .simp only[V0,seval,zc l h, *]
   refine bQ _ ?_
   simp only[V0,seval,af,zdx hx hq ha]
 .exact xat
theorem Qy(hS:bk S)(l:aR 1 aK)(q:Int->Bool)(gf:FuncId)(caps:List IV)(Nc D:Nat)(B:aS)(hc:∀ x∈l.l,∀ m,Nc<=m->∀ d ah aJ aa id,D<d->ah D=B->aL aO S m d ah aJ aa id gf (iv x::caps)=some (.r,.bool (q x),aa)) :
  ∀ m,Nc+l.l.length+6<=m->∀ ah aa id,aL aO S m D ah B aa id 114 [l.v,.fn gf [] caps]=some (.r,.bool (l.l.any q),aa):=fun m hm ah aa id=>by
 refine ZJ (i:=i114) (N:=Nc+l.l.length+5) (hS _ _ M M M M) rfl rfl (bP rfl) Z Z zk fun m hm t af=>?_
 have Px:(fun a=>if a=D then B else ah a:bq) D=B:=bU rfl
 generalize(fun a=>if a=D then B else ah a:bq)=bH at Px ⊢
 simp[V2,i114]at af
 simp[i114,V0,seval,af,(fun aJ aa id=>OU hS l q gf caps Nc D B hc m Z (D+1) bH aJ aa id Z Px),l7,zbj]
theorem K3(hS:bk S)(p:Pn)(hv:bL p)(f:Ft)(x:Int):∃ N,∀ m,N<=m->∀ D d ah aJ aa id R,D<d->ah D=aH p.c::aH f.c::R->aL aO S m d ah aJ aa id 115 [iv x,.ptrM D 1 0,.ptrM D 0 0]=some (.r,.bool (!rV p f x),aa):=by
 let⟨N1,EN⟩:=Iv hS p x;obtain⟨q,hq,N2,T0⟩:=ad6 hS p x (fun a ha=>by have:=hv a ha;omega);let⟨N3,hN3⟩:=ads hS p.fs x;obtain⟨N4,hN4⟩:∃ N,aM S N 118 [p.fs.v,iv x] (.bool (p.fs.l.contains x)):=by refine⟨N3+2,zg (i:=i118) (hS _ _ M M M M) rfl rfl (bP rfl) (N3+1) Z zk fun m hm d ah t af=>?_⟩;simp[V2,i118,zf]at af;have c0:=hN3 m Z;simp only[zf]at c0;simp[i118,V0,seval,af,c0]
 refine⟨N1+N2+N4+10,fun m hm D d ah aJ aa id R hd hB=>?_⟩;refine ZJ (i:=i115) (N:=N1+N2+N4+9) (hS _ _ M M M M) rfl rfl (bP rfl) Z Z zk fun m hm t af=>?_;have Px:(fun a=>if a=d then aJ else ah a:bq) D=aH p.c::aH f.c::R:=by grind
 generalize(fun a=>if a=d then aJ else ah a:bq)=bH at Px ⊢
 simp[V2,Xb,i115,zf]at af;simp[Pn.c,Ft.c,zf]at Px;have R4:(D=d+1)=False:=eq_false Z;have hd2:(D<d+1)=True:=eq_true Z;have c0:=zbo hS f.kind m Z;have c1:=EN m Z;have c2:=T0 m Z;have c4:=hN4 m Z;simp only[Pn.c,zf]at c0 c1 c2 c4;have e1:(p.ns.l.find? fun f=>f.id==x).isSome=(cT p x).isSome:=rfl;have e2:(p.az.l.find? fun f=>f.id==x).isSome=(mX p x).isSome:=rfl;unfold rV;cases h1:bN f.kind==1;rotate_left
 .simp[i115,V0,seval,bV, *]
 cases h2:bN f.kind==2;rotate_left
 .simp[i115,V0,seval,bV,bT, *]
 cases h3:bN f.kind==3
 .simp[i115,V0,seval,bT, *]
 .simp[i115,V0,seval,bV,bT, *]
theorem UR(hS:bk S)(p:Pn)(hv:bL p)(f:Ft):∃ N,aM S N 56 [.agg p.c,.agg f.c] (.bool (L8 p f)):=by let⟨N1,EN⟩:=ED f.parts.l (fun x _=>K3 hS p hv f x);refine⟨N1+f.parts.l.length+10,zg (i:=i56) (hS _ _ M M M M) rfl rfl (bP rfl) (N1+f.parts.l.length+9) Z zk fun m hm d ah t af=>?_⟩;simp[V2,i56,Pn.c,Ft.c,zf]at af;have c0:=fun aa id=>Qy hS f.parts (fun x=>!rV p f x) 115 [.ptrM d 1 0,.ptrM d 0 0] N1 d [aH p.c,aH f.c,.free] (fun x hx m hm d' ah aJ aa id hd hB=>EN x hx m hm d d' ah aJ aa id [.free] hd hB) m Z ah aa id;have hb:(f.parts.l.any fun x=>!rV p f x)=L8 p f:=rfl;simp[Pn.c,Ft.c,zf,hb]at c0;simp[i56,V0,seval,af,c0]
theorem XQ(hS:bk S)(s:Sv)(hv:bL s.pl)(f:Ft):∃ N,∀ m,N<=m->∀ D ah aa id R,aa=aH s.c::R->aL aO S m D ah aa aa id 55 [.agg f.c,.ptrM D 0 0]=some (.r,.bool (L8 s.pl f),aa):=by
 let⟨N1,EN⟩:=UR hS s.pl hv f;refine⟨N1+3,fun m hm D ah aa id R ho=>?_⟩;refine ZJ (i:=i55) (N:=N1+2) (hS _ _ M M M M) rfl rfl (bP rfl) Z Z zk fun m hm t af=>?_;have Px:(fun a=>if a=D then aa else ah a:bq) D=aH s.c::R:=(bU rfl).trans ho
 generalize(fun a=>if a=D then aa else ah a:bq)=bH at Px ⊢
 simp[V2,i55,Ft.c,zf]at af;simp[Sv.c]at Px;have R4:(D=D+1)=False:=eq_false Z;have hd2:(D<D+1)=True:=eq_true Z;have c0:=EN m Z;simp[Pn.c,Ft.c,zf]at c0;simp[i55,V0,seval, *]
def mg(k:Int×Int):IV:=.agg [aB k.1,aB k.2]
def Co(L:List (Int×Int)):List IV:=L.map mg
def EG(L:List (Int×Int)):List IV:=L.map fun _=>.bool true
theorem zfl(k:Int×Int):∀(L:List (Int×Int))(n:Nat),eY (true,[1,1]) (mg k) (Co L) n=some ((L.findIdx? fun x=>k==x).map (n+·))
 |[],n=>rfl
 |x::L,n=>by
  have e:MT (true,[1,1]) (mg k) (mg x)=some (k==x):=by
   have:eR [1,1] [aB k.1,aB k.2] [aB x.1,aB x.2]=some (k==x):=by have hk:(k==x)=(k.1==x.1&&k.2==x.2):=rfl;rw[hk];exact xc7
   exact this
  show(match MT (true,[1,1]) (mg k) (mg x)with|some true=>some (some n)|some false=>eY (true,[1,1]) (mg k) (Co L) (n+1)|none=>none)=_
  rw[e];cases h:k==x
  .simp only[(zfl k L (n+1)),Vx,h];cases L.findIdx? fun x=>k==x with
   |none=>rfl
   |some j=>grind
  grind
theorem PM{k:Int×Int}{L:List (Int×Int)}(h:L.contains k=false):(L.findIdx? fun x=>k==x)=none:=by grind
theorem PL{k:Int×Int}{L:List (Int×Int)}(h:L.contains k=true):∃ j,(L.findIdx? fun x=>k==x)=some j/\j<L.length:=by
 cases hf:L.findIdx? fun x=>k==x with
 |none =>
  grind
 |some j =>
  obtain⟨hj,_⟩:=EW.1 hf
  grind
theorem PY{L:List (Int×Int)}{bs:List Nat}{ck:Nat}(k:Int×Int){C:Call}{d n0 l j:Nat}{ah:bq}{aJ aa:aS}{t:List IV}{a b:bD}(h1:ρ t a=.mapM l j)(h2:ρ t b=.agg [aB k.1,aB k.2])(h3:look d ah aJ l j=some (.map (Co L) (EG L) bs ck)):bY C d ah n0 aJ aa t (.lookup (.bool false) (true,[1,1]) false a b)=some (.r,.bool (L.contains k),aa):=by
 have h0:(jV true (mg k)&&(mg k).cells.length==[1,1].length)=true:=rfl;have h2:ρ t b=mg k:=h2;rw[Zy];simp only[e7,h1,h2,h3,lC,h0,if_true,zfl];cases hc:L.contains k
 .grind
 .let⟨j,hj,hl⟩:=PL hc;rw[hj];simp[EG,hl]
theorem abg{L:List (Int×Int)}{bs:List Nat}{ck:Nat}(k:Int×Int)(hL:L.contains k=false)(C:Call)(D:Nat)(ah:bq)(n0 j:Nat)(aJ aa:aS)(t:List IV)(a b c:bD)(h1:ρ t a=.mapM D j)(h2:ρ t b=.agg [aB k.1,aB k.2])(h3:ρ t c=.bool true)(h4:aa[j]?=some (.map (Co L) (EG L) bs ck)) :
  bY C D ah n0 aJ aa t (.mapupd (true,[1,1]) a b c)=some (.x,.tuple [],aa.set j (.map (Co (L++[k])) (EG (L++[k])) (bs++[ck]) (ck+1))):=by
 have h0:(jV true (mg k)&&(mg k).cells.length==[1,1].length)=true:=rfl
 have h2:ρ t b=mg k:=h2
 rw[Z7]
 simp only[fL,h1,h2,h3,h4,h0,MD,if_true,zfl,PM hL,Vu,zi]
 simp[Co,EG]
def nH:List (Int×Int)->List (Int×Int)->Bool
 |_,[]=>false
 | L,k::r=>L.contains k||nH (L++[k]) r
theorem zfm:∀{L r:List (Int×Int)},L.Nodup->nH L r=!decide (L++r).Nodup
 |L,[],h=>by simp[nH,h]
 |L,k::r,h=>by
  rw[nH];cases hc:L.contains k
  .have hk:k ∉ L:=fun hm=>by grind
   have h2:(L++[k]).Nodup:=by grind
   rw[zfm h2,jg,mo];rfl
  grind
def qR(fs:List Ft)(k:Nat):Bool:=((fs[k]?).map fun f=>nH ((fs.take k).flatMap dP) (dP f)).getD false
theorem C7{fs:List Ft}:∀{n:Nat},n<=fs.length->je (qR fs) n=!decide ((fs.take n).flatMap dP).Nodup
 |0,_=>by rfl
 |n+1,h=>by
  have hx:fs[n]?=some fs[n]:=dw h;rw[zap,(C7 (fs:=fs) (n:=n) Z),zcf hx];rw[(show qR fs n=nH ((fs.take n).flatMap dP) (dP fs[n]) by simp[qR,hx])];by_cases hn:((fs.take n).flatMap dP).Nodup
  .rw[zfm hn];grind
  grind
variable {fs:List Ft}
theorem Li:je (qR fs) fs.length=adl fs:=by rw[C7 (cI _),rD];rfl
def nQ(fs:List Ft)(k:Nat):Bool:=((fs[k]?).map fun x=>(decide (0<k)&&((fs[k-1]?).map fun y=>decide (x.id<=y.id)).getD false)||!dz x.parts.l).getD false
theorem LH:je (nQ fs) fs.length=Ux fs:=by
 unfold Ux;rw[Hh];simp[je,Bj,vU,vX,ET];constructor
 .rintro⟨k,hk,h⟩;simp[nQ,(dw hk),iJ,MF,vX,kE,pM,ET]at h;rcases h with⟨h0,h⟩|h
  .left;rw[(dw Z)]at h;simp[iJ,MF,pM]at h;rw[←tZ];intro ha;have:=yC.1 ha (k-1) fs[k-1].id fs[k].id (by grind) (by grind) (by grind);omega
  grind
 .rintro(h|⟨f,hf,h⟩)
  .rw[←tZ,yC]at h;unfold qc at h;simp only[zm0]at h;let⟨i,x,y,hi,hx,hy,hxy⟩:=h;rw[qE]at hi;rw[qn]at hx hy;have hx1:fs[i]?=some fs[i]:=dw Z;have hy1:fs[i+1]?=some fs[i+1]:=dw hi;rw[hx1]at hx;rw[hy1]at hy;simp[iJ,iw]at hx hy;refine⟨i+1,hi,?_⟩;simp only[nQ,hy1,hx1,zme,iJ,MF,vX,kE,pM];omega
  .obtain⟨k,hk,rfl⟩:=RO.1 hf;refine⟨k,hk,?_⟩;simp[nQ,(dw hk),h]
theorem Uw(hS:bk S)(hm:1<=m)(s:Sv)(aa:aS):∀ aJ id,aL aO S (m+1) D ah aJ aa id 48 [.agg s.c]=some (.x,.fn 111 [] [.ptrM D (aa.length+1) 0,.ptrM D aa.length 0],aa++[aH s.c,aH [aB 0]]):=by
 have main:∃ v aU,(∀ id,aL aO S (m+1) D ah [] aa id 48 [.agg s.c]=some (.x,v,aU))/\(v=.fn 111 [] [.ptrM D (aa.length+1) 0,.ptrM D aa.length 0]/\aU=aa++[aH s.c,aH [aB 0]]):=by refine yq (i:=i48) (hS _ _ M M M M) rfl rfl (bP rfl) fun t af=>?_;simp[slotsOf,za,zb,i48,Sv.c]at af;simp only[i48,V0,Xa,Xb,Xe,af,ya,Sv.c];simp
 exact xdl
theorem SN(hS:bk S)(hm:1<=m)(aa:aS):∀ aJ id,aL aO S (m+1) D ah aJ aa id 57 []=some (.x,.fn 119 [] [.ptrM D (aa.length+1) 0],aa++[.map [] [] [] 0,aH [.mapM D aa.length]]):=by
 have main:∃ v aU,(∀ id,aL aO S (m+1) D ah [] aa id 57 []=some (.x,v,aU))/\(v=.fn 119 [] [.ptrM D (aa.length+1) 0]/\aU=aa++[.map [] [] [] 0,aH [.mapM D aa.length]]):=by refine yq (i:=i57) (hS _ _ M M M M) rfl rfl (bP rfl) fun t af=>?_;simp[slotsOf,zb,i57]at af;have smp:∀ j,(IV.mapM D j).scalar=true:=fun j=>rfl;have cmp:∀ j,(IV.mapM D j).cells=[.mapM D j]:=fun j=>rfl;simp only[i57,V0,Xa,Xb,Xe,af,smp,cmp,ya];simp
 exact xdl
theorem Qn(hS:bk S)(s:Sv)(k:Nat)(x:Ft)(hx:s.ft.l[k]?=some x)(hm:x.parts.l.length+10<=m)(P J:aS):∃ R,∀ aJ id,aL aO S (m+1) D ah aJ (P++aH s.c::aH [iv k]::J) id 111 [.agg x.c,.ptrM D (P.length+1) 0,.ptrM D P.length 0]=some (.x,.bool (nQ s.ft.l k),P++aH s.c::aH [iv (k+1:Nat)]::(J++R)):=by
 have main:∃ v aU,(∀ id,aL aO S (m+1) D ah [] (P++aH s.c::aH [iv k]::J) id 111 [.agg x.c,.ptrM D (P.length+1) 0,.ptrM D P.length 0]=some (.x,v,aU))/\(v=.bool (nQ s.ft.l k)/\∃ R,aU=P++aH s.c::aH [iv (k+1:Nat)]::(J++R)):=by
  refine yq (i:=i111) (hS _ _ M M M M) rfl rfl (bP rfl) fun t af=>?_;simp[V2,Xb,i111,Ft.c,zf]at af;let⟨hk,hxe⟩:=ew.1 hx;have hlf:=s.ft.eZ;have hw:=zt k;have c0:=QU hS x.parts m Z;have g3:∀(a b c:aP),(P++a::b::(J++[c]))[P.length+(J.length+1+1)]?=some c:=fun a b c=>by simp
  have g3f:∀(a b c e:aP),(P++a::b::(J++[c,e]))[P.length+(J.length+1+1)]?=some c:=fun a b c e=>by simp
  have h0:∀(vis:List Nat)(a b c e:aP),(bI vis (P.length+(J.length+1+1+1)) (P++a::b::(J++[c,e])))[P.length]?=some a:=fun vis a b c e=>by rw[zu,xV,iJ,bU M]
  have h1:∀(vis:List Nat)(a b c e:aP),(bI vis (P.length+(J.length+1+1+1)) (P++a::b::(J++[c,e])))[P.length+1]?=some b:=fun vis a b c e=>by rw[zu,ze4,iJ,bU M]
  have h2:∀(vis:List Nat)(a b c e:aP),(bI vis (P.length+(J.length+1+1+1)) (P++a::b::(J++[c,e])))[P.length+(J.length+1+1)]?=some c:=fun vis a b c e=>by rw[zu,g3f,iJ,bU M]
  have s3:∀(a b c e:aP),(P++a::b::(J++[c])).set (P.length+(J.length+1+1)) e=P++a::b::(J++[e]):=fun a b c e=>by simp
  cases k with
  |zero =>
   have hd:nQ s.ft.l 0=!dz x.parts.l:=by simp[nQ,hx]
   simp only[i111,V0,Xa,Xe,af,Sv.c,hw,g3,s3,h1,h2,(show decide (((0+1:Nat):Int)>1)=false by rfl),c0,ya]
   grind
  |succ k =>
   have hgt:decide (((k+1+1:Nat):Int)>1)=true:=by grind
   have au:k<s.ft.l.length:=Z
   obtain⟨y,hy⟩:=fc (l:=s.ft.l) (i:=k) au
   have RX:aT .i64 (((k+1+1:Nat):Int)-2)=((k:Nat):Int):=oS
   have hrd:bB (s.ft.l.flatMap Ft.c) (k*5) 1=some [aB y.id]:=(zd Ft.aV 0 1 hy Z).trans rfl
   have hd:nQ s.ft.l (k+1)=(decide (x.id<=y.id)||!dz x.parts.l):=by simp[nQ,hx,hy]
   cases hb:decide (x.id<=y.id)
   .simp only[i111,V0,Xa,Xe,af,Sv.c,hw,g3,s3,h0,h1,h2,hgt,c0,RX,zc s.ft au,hrd,l7,hb,ya]
    grind
   .simp only[i111,V0,Xa,Xe,af,Sv.c,hw,g3,s3,h0,h1,h2,hgt,RX,zc s.ft au,hrd,l7,hb,ya]
    grind
 obtain⟨v,aU,h1,rfl,R,rfl⟩:=main;exact⟨R,fun aJ id=>(yU (hS _ _ M M M M) rfl rfl).trans (h1 0)⟩
variable {P:List H}
theorem xB{R:List H}{a b c:H}(h:R[j]?=some c):(P++a::b::R)[P.length+(j+1+1)]?=some c:=by grind
theorem Tv{R:List H}{a b v:H}:(P++a::b::R).set (P.length+(j+1+1)) v=P++a::b::R.set j v:=by simp
theorem NB(hS:bk S){m D:Nat}{ah:bq}{K:eU}(f:Ft)(kind:Int)(L:List (Int×Int))(P J:aS)(bs:List Nat)(ck j:Nat)(hm:f.parts.l.length+10<=m)(hkey:dP f=f.parts.l.map fun x=>(kind,x))(hj:J[j]?=some (aH f.c))(t:List IV)
  (af:aN 33 t [(1,.ptrM D (P.length+1) 0),(2,.ptrM D (P.length+(j+1+1)) 0),(4,aB kind)])
  (hK:∀ t' L' bs' gX R b,aN 33 t' [(3,.bool b)]->b=nH L (dP f)->(b=false->L'=L++dP f)->K .ret ⟨t',P++.map (Co L') (EG L') bs' gX::aH [.mapM D P.length]::(J++R)⟩) :
  Ex (aL aO S m) D ah m (i119.body.sub [1,1,1]) K ⟨t,P++.map (Co L) (EG L) bs ck::aH [.mapM D P.length]::J⟩:=by
 simp only[za,zb]at af
 have hlf:=f.parts.eZ
 have g0:∀(a b:aP),(P++a::b::J)[P.length+(j+1+1)]?=some (aH f.c):=fun a b=>xB hj
 simp only[Ft.c,zf]at g0
 simp only[i119,IC.sub,V0,seval,af,g0]
 refine zm f.parts.l.length (fun i st=>∃(L1:List (Int×Int))(bs:List Nat)(ck:Nat)(R:aS),L1=L++(dP f).take i/\nH L (dP f)=nH L1 ((dP f).drop i)/\st.aa=P++.map (Co L1) (EG L1) bs ck::aH [.mapM D P.length]::(J++R)/\aN 33 st.t [(1,.ptrM D (P.length+1) 0),(4,aB kind),(18,f.parts.v),(19,iv (f.parts.l.length:Nat)),(20,iv i)]) Z ⟨L,bs,ck,[],M,M,M,by simp only[V0,seval,af,cZ]⟩ ?_
 clear af
 rintro i ⟨t,aa⟩ KA hi ⟨L1,bs,ck,R,hL1,sB,rfl,af⟩ bp bK bQ
 simp only[V3]at af
 by_cases h:i<f.parts.l.length
 .obtain⟨x,hx⟩:=fc (l:=f.parts.l) (i:=i) h
  have hrd:bB (f.parts.l.flatMap aK) (i*1) 1=some [aB x]:=(zd ze 0 1 hx Z).trans rfl
  have hw:=zt i
  have hkx:(dP f)[i]?=some (kind,x):=by rw[hkey,qn,hx];rfl
  have Ph:(dP f).drop i=(kind,x)::(dP f).drop (i+1):=by obtain⟨h1,h2⟩:=ew.1 hkx;rw[←h2,EU h1]
  have gN:∀(a b c:aP),(P++a::b::(J++(R++[c])))[P.length+(J.length+R.length+1+1)]?=some c:=fun a b c=>xB (by rw[←mo,←mV,q8 (cI _),Ew];rfl)
  have sN:∀(a b c v:aP),(P++a::b::(J++(R++[c]))).set (P.length+(J.length+R.length+1+1)) v=P++a::b::(J++(R++[v])):=fun a b c v=>by rw[Tv,←mo,←mV,zlu _ _ (cI _),Ew];simp
  have Jm:=fun(C:Call)(n0:Nat)(aJ aa:aS)(t:List IV)(a b:bD) h1 h2 h3=>@PY L1 bs ck (kind,x) C D n0 D P.length ah aJ aa t a b h1 h2 h3
  have kk:∀(p:Int×Int),([IV.int .i64 p.1,IV.int .i64 p.2]:List IV).all IV.scalar=true:=fun p=>rfl
  rw[Ph,nH]at sB
  cases hc:L1.contains (kind,x)
  .rw[hc,jg]at sB
   have evU:=fun(C:Call)(n0:Nat)(aJ aa:aS)(t:List IV)(a b c:bD) h1 h2 h3 h4=>@abg L1 bs ck (kind,x) hc C D ah n0 P.length aJ aa t a b c h1 h2 h3 h4
   simp only[hc]at Jm
   simp only[V0,seval,af,h,zc f.parts h,hrd,gN,sN,Jm,evU,hw]
   exact bp Z _ ⟨L1++[(kind,x)],bs++[ck],ck+1,_,by rw[hL1,mo,jh,hkx];rfl,sB,rfl,bS⟩
  .rw[hc,k9]at sB
   simp only[hc]at Jm
   simp only[V0,seval,af,h,zc f.parts h,hrd,gN,sN,Jm]
   refine bQ _ ?_
   simp only[V0,seval]
   exact hK _ L1 bs ck _ true bS sB.symm (fun h=>by cases h)
 .have Ph:(dP f).drop i=[]:=by rw[List.drop_eq_nil_iff,hkey,qE];omega
  have acn:(dP f).take i=dP f:=fT (by rw[hkey,qE];omega)
  rw[Ph,nH]at sB
  rw[acn]at hL1
  simp only[V0,seval,af,h]
  refine bK _ _ ?_
  simp only[V0,seval]
  exact hK _ L1 bs ck R false bS sB.symm fun _=>hL1
theorem NC(hS:bk S)(f:Ft)(L:List (Int×Int))(P J:aS)(bs:List Nat)(ck:Nat)(hm:f.parts.l.length+10<=m):∃ L' bs' gX R,(∀ aJ id,aL aO S (m+1) D ah aJ (P++.map (Co L) (EG L) bs ck::aH [.mapM D P.length]::J) id 119 [.agg f.c,.ptrM D (P.length+1) 0]=some (.x,.bool (nH L (dP f)),P++.map (Co L') (EG L') bs' gX::aH [.mapM D P.length]::(J++R)))/\(nH L (dP f)=false->L'=L++dP f):=by
 have main:∃ v aU,(∀ id,aL aO S (m+1) D ah [] (P++.map (Co L) (EG L) bs ck::aH [.mapM D P.length]::J) id 119 [.agg f.c,.ptrM D (P.length+1) 0]=some (.x,v,aU))/\(v=.bool (nH L (dP f))/\∃ L' bs' gX R,aU=P++.map (Co L') (EG L') bs' gX::aH [.mapM D P.length]::(J++R)/\(nH L (dP f)=false->L'=L++dP f)):=by
  refine yq (i:=i119) (hS _ _ M M M M) rfl rfl (bP rfl) fun t af=>?_;simp[V2,i119,Ft.c,zf]at af;suffices jc:∀ K:eU,(∀ t' L' bs' gX R b,aN 33 t' [(3,.bool b)]->b=nH L (dP f)->(b=false->L'=L++dP f)->K .ret ⟨t',P++.map (Co L') (EG L') bs' gX::aH [.mapM D P.length]::(J++R)⟩)->Ex (aL aO S m) D ah m i119.body K ⟨t,P++.map (Co L) (EG L) bs ck::aH [.mapM D P.length]::J⟩from jc _ fun t' L' bs' gX R b ht hb fE=>by simp[za,zb]at ht;simp only[i119,V0,seval,ht,ya];grind
  intro K fin;have c0:=zbo hS f.kind m Z;simp[zf]at c0;have s1:∀(a b c v:aP)(r:aS),(P++a::b::(J++c::r)).set (P.length+(J.length+1+1)) v=P++a::b::(J++v::r):=fun a b c v r=>by simp
  have hT:=fun K kind J j hkey hj t af hK=>@NB S hS m D ah K f kind L P J bs ck j hm hkey hj t af hK;rw[show i119.body=.seq (i119.body.sub [0]) (.seq (i119.body.sub [1,0]) (.seq (i119.body.sub [1,1,0]) (i119.body.sub [1,1,1])))from rfl];generalize i119.body.sub [1,1,1]=T at hT ⊢;cases h2:bN f.kind==2
  .cases h3:bN f.kind==3
   .simp[i119,IC.sub,V0,seval,s1, *];refine hT _ 0 _ J.length (by simp[dP,ON,h2,h3]) (by rw[q8 (cI _),Ew];rfl) _ bS fun t' L' bs' gX R b h1 h2 h3=>?_;grind
   .simp[i119,IC.sub,V0,seval,s1, *];refine hT _ f.kind _ J.length (by simp[dP,ON,h2,h3]) (by rw[q8 (cI _),Ew];rfl) _ bS fun t' L' bs' gX R b h1 h2 h3=>?_;grind
  .have hkey:dP f=[]:=by simp[dP,h2]
   simp[i119,IC.sub,V0,seval,af,c0,(fun a b c r=>xB M:∀(a b c:aP)(r:aS),(P++a::b::(J++c::r))[P.length+(J.length+1+1)]?=some c),s1,h2];exact fin _ L bs ck _ false bS (by rw[hkey];rfl) fun _=>by grind
 obtain⟨v,aU,h1,rfl,L',bs',gX,R,rfl,h2⟩:=main;exact⟨L',bs',gX,R,fun aJ id=>(yU (hS _ _ M M M M) rfl rfl).trans (h1 0),h2⟩
theorem uL:∀(l:List Ft),∃ B,∀ f∈l,f.parts.l.length<=B
 |[]=>⟨0,fun _ h=>by grind⟩
 |x::l=>by let⟨B,hB⟩:=uL l;refine⟨B+x.parts.l.length,fun f h=>?_⟩;grind
def rg(r:IV×Int×Bool):List IV:=[r.1,aB r.2.1]
def lK(nm:ByteArray->Int)(s:Sv)(D:Nat):List (IV×Int×Bool) :=
 [(.fn 47 [] [],3,s.ft.l.any GL),(.fn 111 [] [.ptrM D 5 0,.ptrM D 4 0],10,Ux s.ft.l),(.fn 49 [] [],2,s.ft.l.any GK),(.fn 50 [] [],9,s.ft.l.any GJ),(.fn 52 [] [],14,s.ft.l.any (GI nm)),(.fn 54 [] [],1,s.ft.l.any GH),(.fn 55 [] [.ptrM D 0 0],7,s.ft.l.any (L8 s.pl)),(.fn 119 [] [.ptrM D 7 0],13,adl s.ft.l)]
def mG(l:List (IV×Int×Bool)):Int:=((l.find? fun r=>r.2.2).map fun r=>r.2.1).getD 0
theorem BO{r:IV×Int×Bool}{l:List (IV×Int×Bool)}:mG (r::l)=bif r.2.2 then r.2.1 else mG l:=by unfold mG;grind
theorem KD(nm:ByteArray->Int)(s:Sv)(D:Nat):(bif decide ((128:Int)<(s.ft.l.length:Int))then 3 else mG (lK nm s D))=uz nm s.pl s.ft.l:=by unfold lK uz;simp[BO];rfl
def Jf(nm:ByteArray->Int)(e:Int)(s:Sv):Int:=bif e != 0 then e else uz nm s.pl s.ft.l
def iB(s:Sv)(D:Nat)(x5 x6:aP):aS:=[aH s.c,.free,.free,.free,aH s.c,x5,x6,aH [.mapM D 6]]
variable {cs:List IV}
def Dp{aa:aS}:bl (n+1) d aa (.agg cs)=(cs.mapM (bl n d aa)).map .agg:=aI
theorem XR(n d:Nat)(aa:aS)(q:aR 2 Pt.c):bl (n+2) d aa q.v=some q.v:=zbm q fun a x hx=>by simp[Pt.c,zf,eG,gm,gw]at hx;rcases hx with rfl|rfl<;>rfl
theorem adi(n d:Nat)(aa:aS)(f:Ft):∀ x∈f.c,bl (n+2) d aa x=some x:=fun x hx=>by
 simp[Ft.c,zf,eG,gm,gw]at hx;rcases hx with rfl|rfl|rfl|rfl|rfl
 .rfl
 .rfl
 .rfl
 .rfl
 .exact zdy n d aa f.parts
theorem ace(p:Pn)(d:Nat)(aa:aS):[p.ns.v,p.az.v,p.fs.v].mapM (bl 11 d aa)=some [p.ns.v,p.az.v,p.fs.v]:=by
 have h1:bl 11 d aa p.ns.v=some p.ns.v:=zbm p.ns fun a x hx=>by simp[Nd.c,zf,eG,gm,gw]at hx;rcases hx with rfl|rfl|rfl<;>rfl
 have h2:bl 11 d aa p.az.v=some p.az.v:=zbm p.az fun a x hx=>by
  simp[Ac.c,zf,eG,gm,gw]at hx;rcases hx with rfl|rfl|rfl|rfl|rfl|rfl
  .rfl
  .rfl
  .rfl
  .exact XR 8 d aa a.via
  .rfl
  rfl
 have h3:bl 11 d aa p.fs.v=some p.fs.v:=zdy 9 d aa p.fs;simp[*]
theorem abl(s:Sv)(d:Nat)(aa:aS):[IV.agg s.c].mapM (bl 12 d aa)=some [.agg s.c]:=by
 have hall:s.c.mapM (bl 11 d aa)=some s.c:=by have e:s.c=[s.pl.ns.v,s.pl.az.v,s.pl.fs.v]++[s.ft.v]:=rfl;rw[e,List.mapM_append,(ace s.pl d aa),mq,(zbm s.ft fun a x hx=>adi 8 d aa a x hx)];rfl
 refine zD fun x hx=>?_;rw[MG]at hx;rw[hx,Dp,hall];rfl
theorem Fj(hS:bk S)(hN:Mx S nm)(s:Sv)(hv:bL s.pl):∃ xgu,∀ m,xgu<=m->∀(D:Nat)(ah:bq)(i:Nat)(r:IV×Int×Bool),(lK nm s D)[i]?=some r->∀(c:Int)(R:aS),(i<=1->c=0) ->
  ∃ x5 x6 R',(∀ aJ id,aL aO S m D ah aJ (iB s D (aH [aB c]) (.map [] [] [] 0)++R) id 58 [s.ft.v,r.1]=some (.x,.bool r.2.2,iB s D x5 x6++(R++R')))/\(i<=6->∃ c':Int,x5=aH [aB c']/\x6=.map [] [] [] 0/\(i=0->c'=0)):=by
 let⟨B,hB⟩:=uL s.ft.l
 let⟨N7,hN7⟩:=ED s.ft.l (fun f _=>XQ hS s hv f)
 refine⟨N7+B+s.ft.l.length+60,fun m hm D ah i r hr c R hc=>?_⟩
 obtain⟨m,rfl⟩:=gv m 2
 have pure:∀(q:Ft->Bool)(gf:FuncId)(caps:List IV)(x6:aP),(∀ x∈s.ft.l,∀ R id,aL aO S m D ah (iB s D (aH [aB c]) x6++R) (iB s D (aH [aB c]) x6++R) id gf (.agg x.c::caps)=some (.r,.bool (q x),iB s D (aH [aB c]) x6++R))->∃ R',∀ aJ id,aL aO S (m+2) D ah aJ (iB s D (aH [aB c]) x6++R) id 58 [s.ft.v,.fn gf [] caps]=some (.x,.bool (s.ft.l.any q),iB s D (aH [aB c]) x6++(R++R')):=fun q gf caps x6 h=>by obtain⟨R',h'⟩:=LQ (D:=D) (ah:=ah) (m:=m) hS s.ft q gf caps (iB s D (aH [aB c]) x6++R) Z (fun x hx R2 id=>by grind);simp[*]
 match i,hr,hc with
 |0,hr,hc =>
  cases hr
  let⟨R',h⟩:=pure GL 47 [] (.map [] [] [] 0) fun x hx R id=>ad3 hS x m Z D ah _ _ id
  simp_all
 |1,hr,hc =>
  cases hr
  obtain rfl:=hc Z
  obtain ⟨aU,h1,k,_,R',rfl⟩:=zfk (D:=D) (ah:=ah) (m:=m) hS s.ft (nQ s.ft.l) 111 [.ptrM D 5 0,.ptrM D 4 0] (fun k J=>∃ R',J=iB s D (aH [aB (k:Nat)]) (.map [] [] [] 0)++(R++R')) (fun k J R2 ⟨R',h⟩=>⟨R'++R2,by grind⟩) Z (fun k x J hx _ ⟨R',hJ⟩=>by
   subst hJ;obtain⟨m,rfl⟩:=gv m 1;obtain⟨R2,h2⟩:=Qn (D:=D) (ah:=ah) (m:=m) hS s k x hx (by grind) [aH s.c,.free,.free,.free] ([.map [] [] [] 0,aH [.mapM D 6]]++(R++R'));exact ⟨_,_,fun id=>h2 _ id,R'++R2,by simp [iB,zf]⟩) (iB s D (aH [aB 0]) (.map [] [] [] 0)++R) ⟨[],M⟩
  rw[LH]at h1
  exact⟨_,_,R',h1,fun _=>⟨_,rfl,rfl,fun h=>absurd h Z⟩⟩
 |2,hr,hc =>
  cases hr
  let⟨R',h⟩:=pure GK 49 [] (.map [] [] [] 0) fun x hx R id=>ad2 hS x m Z D ah _ _ id
  exact xa3
 |3,hr,hc =>
  cases hr
  let⟨R',h⟩:=pure GJ 50 [] (.map [] [] [] 0) fun x hx R id=>ad1 hS x m Z D ah _ _ id
  exact xa3
 |4,hr,hc =>
  cases hr
  let⟨R',h⟩:=pure (GI nm) 52 [] (.map [] [] [] 0) fun x hx R id=>ad0 hS hN x m Z D ah _ _ id
  exact xa3
 |5,hr,hc =>
  cases hr
  let⟨R',h⟩:=pure GH 54 [] (.map [] [] [] 0) fun x hx R id=>adz hS x m Z D ah _ _ id
  exact xa3
 |6,hr,hc =>
  cases hr
  let⟨R',h⟩:=pure (L8 s.pl) 55 [.ptrM D 0 0] (.map [] [] [] 0) fun x hx R id=>hN7 x hx m Z D ah _ id _ rfl
  exact xa3
 |7,hr,hc =>
  cases hr
  obtain ⟨aU,h1,k,_,L,bs,ck,R',rfl,_⟩:=zfk (D:=D) (ah:=ah) (m:=m) hS s.ft (qR s.ft.l) 119 [.ptrM D 7 0] (fun k J=>∃ L bs ck R',J=iB s D (aH [aB c]) (.map (Co L) (EG L) bs ck)++(R++R')/\(je (qR s.ft.l) k=false->L=(s.ft.l.take k).flatMap dP)) (fun k J R2 ⟨L,bs,ck,R',h,h2⟩=>⟨L,bs,ck,R'++R2,by grind,h2⟩) Z (fun k x J hx hk ⟨L,bs,ck,R',hJ,hL⟩=>by
   subst hJ;obtain rfl:=hL hk;obtain⟨m,rfl⟩:=gv m 1;obtain⟨L',bs',gX,R2,h2,h3⟩:=NC (D:=D) (ah:=ah) (m:=m) hS x ((s.ft.l.take k).flatMap dP) [aH s.c,.free,.free,.free,aH s.c,aH [aB c]] (R++R') bs ck (by grind);have e:qR s.ft.l k=nH ((s.ft.l.take k).flatMap dP) (dP x):=by simp[qR,hx]
   rw[e];refine⟨_,_,fun id=>h2 _ id,L',bs',gX,R'++R2,by simp[iB],fun ha=>?_⟩;rw[zap,Ez,e]at ha;rw [h3 ha.2,zcf hx]) (iB s D (aH [aB c]) (.map [] [] [] 0)++R) ⟨[],[],0,[],by simp [Co,EG],fun _=>by simp⟩
  rw[Li]at h1
  exact⟨_,_,R',h1,fun h=>absurd h Z⟩
 |i+8,hr,hc=>simp[lK]at hr
theorem Ae(hS:bk S)(hN:Mx S nm)(s:Sv)(hv:bL s.pl){e:Int}{N0:Nat}(hR:aM S N0 46 [.agg s.pl.c] (aB e)):∃ N,aM S N 23 [.agg s.c] (aB (Jf nm e s)):=by
 let⟨xgu,hM⟩:=Fj hS hN s hv;refine⟨N0+xgu+30,u5 (i:=i23) (hS _ _ M M M M) rfl Δ (bP rfl) (N0+xgu+29) Z zp (fun _=>rfl) (fun d aa=>abl s d aa) fun m hm d ah t af=>?_⟩;simp[slotsOf,za,zb,i23,Sv.c]at af;have c0:=hR m Z;simp[Pn.c]at c0;unfold Jf;cases he:e != 0;rotate_left
 .simp[i23,V0,Xa,Xb,Xe,af,c0,he,bV]
 cases hl:decide ((128:Int)<(s.ft.l.length:Int));rotate_left
 .simp[i23,V0,Xa,Xb,Xe,af,c0,he,ez,hl,(show uz nm s.pl s.ft.l=3 by unfold uz;grind),bT]
 have hr:uz nm s.pl s.ft.l=mG (lK nm s d):=by rw[←KD nm s d,hl];rfl
 obtain⟨m1,rfl⟩:∃ q,m=q+1:=⟨m-1,Z⟩;have c1:∀ aJ id,aL aO S (m1+1) d ah aJ [aH s.c,.free,.free,.free] id 48 [.agg s.c]=some (.x,.fn 111 [] [.ptrM d 5 0,.ptrM d 4 0],[aH s.c,.free,.free,.free,aH s.c,aH [aB 0]]):=fun aJ id=>Uw (D:=d) (ah:=ah) (m:=m1) hS Z s [aH s.c,.free,.free,.free] aJ id;have c2:∀ aJ id,aL aO S (m1+1) d ah aJ [aH s.c,.free,.free,.free,aH s.c,aH [aB 0]] id 57 []=some (.x,.fn 119 [] [.ptrM d 7 0],iB s d (aH [aB 0]) (.map [] [] [] 0)):=fun aJ id=>SN (D:=d) (ah:=ah) (m:=m1) hS Z [aH s.c,.free,.free,.free,aH s.c,aH [aB 0]] aJ id;have cC:(lK nm s d).flatMap rg=[.fn 47 [] [],aB 3,.fn 111 [] [.ptrM d 5 0,.ptrM d 4 0],aB 10,.fn 49 [] [],aB 2,.fn 50 [] [],aB 9,.fn 52 [] [],aB 14,.fn 54 [] [],aB 1,.fn 55 [] [.ptrM d 0 0],aB 7,.fn 119 [] [.ptrM d 7 0],aB 13]:=rfl;have hlen:(lK nm s d).length=8:=rfl;have sE:=fun i r hr c R hc=>hM (m1+1) Z d ah i r hr c R hc;simp[Sv.c]at c1 c2;rw[hr];have cfn:∀ a b c,(IV.fn a b c).cells=[.fn a b c]:=fun a b c=>rfl;have af8:∀ a b:IV,rep [a,b] 8=[a,b,a,b,a,b,a,b,a,b,a,b,a,b,a,b]:=fun a b=>rfl;simp only[i23,V0,Xa,Xb,Xd,Xe,af,c0,he,ez,hl,c1,c2,cfn,af8,bT];have hfn:∀ r∈lK nm s d,∃ g b c,r.1=.fn g b c:=by intro r hr;simp[lK,eG,gm,gw]at hr;grind
 generalize lK nm s d=rl at cC hlen sE hfn ⊢;refine zn (fun jj st=>∃(i:Nat)(O:aS),8-i<=jj/\i<=8/\(rl.take i).find? (fun r=>r.2.2)=none/\(i<=7->∃(c:Int)(R:aS),O=iB s d (aH [aB c]) (.map [] [] [] 0)++R/\(i<=1->c=0))/\st.aa=O/\aN 43 st.t [(1,.ptrM d 0 0),(29,.slC (rl.flatMap rg) 8 2 true),(30,iv (8:Nat)),(31,iv i)]) 8 Z ⟨0,_,Z,Z,rfl,fun _=>⟨0,[],by rfl,fun _=>rfl⟩,rfl,by simp[V0,Xa,Xe,af,cC,cZ]⟩ ?_;clear af;rintro jj ⟨t,aa⟩ KA ⟨i,O,hjj,hi,ae6,hO,rfl,af⟩ bp bK bQ;simp only[V3]at af;by_cases h:i<8
 .obtain⟨c,R,rfl,hc⟩:=hO Z;have hx:rl[i]?=some (rl[i]'Z):=dw Z;generalize rl[i]'Z=r at hx;have hrd:bB (rl.flatMap rg) (i*2) 2=some [r.1,aB r.2.1]:=(zd (g:=rg) (sz:=2) (fun _=>rfl) 0 2 hx Z).trans rfl;have h8:decide ((i:Int)<((8:Nat):Int))=true:=by grind
  let⟨g1,g2,g3,hfe⟩:=hfn r (og hx);obtain⟨x5,x6,R',h1,h2⟩:=sE i r hx c (R++[aH [r.1,aB r.2.1],.free]) hc;rw[hfe]at hrd h1;have hpl:∀(x5 x6:aP),(iB s d x5 x6).length=8:=fun x5 x6=>rfl;have gA:∀(x5 x6 a:aP)(l:aS),(iB s d x5 x6++(R++a::l))[8+R.length]?=some a:=fun x5 x6 a l=>by grind
  have sA:∀(x5 x6 a v:aP)(l:aS),(iB s d x5 x6++(R++a::l)).set (8+R.length) v=iB s d x5 x6++(R++v::l):=fun x5 x6 a v l=>by grind
  have g00:∀(x5 x6:aP)(l:aS),(iB s d x5 x6++l)[0]?=some (s.o):=fun x5 x6 l=>rfl;simp[gu,fP,mo]at h1;cases hb:r.2.2
  .rw[hb]at h1;simp only[V0,Xa,Xb,Xe,af,h,zC,hrd,hpl,gA,sA,g00,h1,(zt i)];refine bp _ (8-(i+1)) (W6 (Nat.sub_lt_sub_left h (zl5 i)) hjj) ⟨i+1,_,cI _,h,Z8 ae6 hx hb,fun hi7=>?_,rfl,by simp[V0,Xa,Xe,af]⟩;grind
  .rw[hb]at h1;simp only[V0,Xa,Xb,Xe,af,h,zC,hrd,hpl,gA,sA,g00,h1];refine bQ _ ?_;have hv1:mG rl=r.2.1:=by unfold mG;rw[YI ae6 hx hb];rfl
   simp[V0,Xa,af,hv1]
 .obtain rfl:i=8:=Z;have hv0:mG rl=0:=by unfold mG;grind
  have h8:decide (((8:Nat):Int)<((8:Nat):Int))=false:=by rfl
  simp[V0,Xa,af];refine bK _ _ ?_;simp[V0,Xa,af,hv0]
variable {v:IV}
theorem zcj(h:S f args=some v):∀ m,1<=m->∀ d ah aJ aa id,aL F S m d ah aJ aa id f args=some (.r,v,aa):=fun m hm d ah aJ aa id=>by obtain⟨m,rfl⟩:=gv m 1;simp[aL,h]
def iI(p:Pn):List Pt:=p.ns.l.map Nd.at'++p.az.l.flatMap fun a=>a.via.l
theorem vf{g:H->List IV}(hg:∀ a,(g a).length=sz){l:List H}(h:i<=l.length):(l.flatMap g).take (i*sz)=(l.take i).flatMap g:=by
 conv=>lhs;rw[←MJ i l,Bh]
 rw[List.take_left' (by rw[zj hg,ER,ML h])]
theorem Lq{g:H->List IV}(hg:∀ a,(g a).length=sz){l:List H}(h:i<=l.length):(l.flatMap g).drop (i*sz)=(l.drop i).flatMap g:=by
 conv=>lhs;rw[←MJ i l,Bh]
 rw[List.drop_left' (by rw[zj hg,ER,ML h])]
theorem Nx{g:H->List IV}(hg:∀ a,(g a).length=sz)(q:aR sz g)(h:i<=q.l.length)(h0:q.l.length≠0):∃ q2:aR sz g,q2.l=q.l.drop i/\∀(t:List IV)(x:bD),ρ t x=aB (i:Int)->dA sz t q.v (some x) none none=some q2.v:=by
 have hh:∀(cs:List IV)(n:Nat)(v:IV),Sl sz cs n v->n≠0->i<=n->∃ tight,∀(t:List IV)(x:bD),ρ t x=aB (i:Int)->dA sz t v (some x) none none=some (.slC ((cs.drop (i*sz)).take ((n-i)*sz)) (n-i) sz tight):=fun cs n v hs hn hi=>by
  cases hs with
  |nil=>omega
  |row cs n tight hl =>
   refine⟨tight&&n==n,fun t x hx=>?_⟩
   exact xdx
 let⟨tight,h1⟩:=hh _ _ _ q.ok h0 h;have e:((q.l.flatMap g).drop (i*sz)).take ((q.l.length-i)*sz)=(q.l.drop i).flatMap g:=by rw[Lq hg h,fT];rw[zj hg,RL];simp
 refine⟨gB hg (q.l.drop i) (q.l.length-i) tight M (by have:=q.eZ;omega),rfl,fun t x hx=>?_⟩;rw[h1 t x hx,e];rfl
theorem zd0{g:H->List IV}(hg:∀ a,(g a).all (nk (n+1))=true)(q:aR sz g):nk (n+2) q.v=true:=by
 have hh:∀(cs:List IV)(k:Nat)(v:IV),Sl sz cs k v->cs.all (nk (n+1))=true->nk (n+2) v=true:=fun cs k v hs hc=>by
  cases hs with
  |nil=>rfl
  |row cs k tight hl=>exact hc
 refine hh _ _ _ q.ok ?_;grind
theorem acf(q:aR 3 Nd.c)(n:Nat):nk (n+2) q.v=true:=zd0 (fun a=>by rfl) q
theorem ad5(q:aR 6 Ac.c)(n:Nat):nk (n+3) q.v=true:=zd0 (n:=n+1) (fun a=>by
  rw[nu];intro x hx;simp[Ac.c,zf,eG,gm,gw]at hx;rcases hx with rfl | rfl | rfl | rfl | rfl | rfl <;> first | rfl | exact Fy a.via n) q
theorem zfn(q:aR 1 aK)(n:Nat):nk (n+2) q.v=true:=zd0 (fun a=>by rfl) q
theorem adh(a:Ft):∀ x∈a.c,Fz 2 x:=fun x hx=>by refine Zo (n:=2) ?_;simp[Ft.c,zf,eG,gm,gw]at hx;rcases hx with rfl|rfl|rfl|rfl|rfl<;>first|rfl|exact zfn a.parts 0
def Mv(d:Nat)(ah:bq)(aJ:aS)(lv:IV)(xs:List Int):Prop:=(xs=[]/\lv=.nilsl)∨∃ l b cap tg,xs≠[]/\xs.length<=cap/\l<=d/\lv=.slM l b 0 xs.length cap 1 tg/\(if l=d then aJ else ah l)[b]?=some (aH (xs.flatMap aK))
variable {Nc:Nat}
section
theorem Py(hS:bk S){aa:aS}{id:Nat}(hm:3<=m):aL aO S m d ah aJ aa id 181 [.nilsl,aB 0]=some (.r,.nilsl,aa):=by
 obtain⟨m,rfl⟩:=gv m 2;have main:∃ r,aL aO S (m+2) d ah aJ aa id 181 [.nilsl,aB 0]=some r/\r=(.r,.nilsl,aa):=by refine zF (i:=i181) (hS _ _ M M M M) rfl Δ (bP rfl) fun t af=>?_;simp[V2,Xb,i181]at af;have w0:aT .i64 0=0:=rfl;simp only[i181,V0,seval,af,(show decide ((0:Int)<0)=false by rfl),(show decide ((0:Int)>0)=false by rfl),w0,(rfl:aT .i64 (0-0)=0),Gc,nP];exact xdf
 grind
theorem concat_nil(hS:bk S){aa:aS}{id:Nat}(hm:8<=m):aL aO S m d ah aJ aa id 148 [.slC [.nilsl] 1 1 tt]=some (.r,.nilsl,aa):=by
 obtain⟨m,rfl⟩:=gv m 1;have hg:=fun d ah aJ aa id=>Py hS (m:=m) (d:=d) (ah:=ah) (aJ:=aJ) (aa:=aa) (id:=id) Z;have main:∃ r,aL aO S (m+1) d ah aJ aa id 148 [.slC [.nilsl] 1 1 tt]=some r/\r=(.r,.nilsl,aa):=by
  refine zF (i:=i148) (hS _ _ M M M M) rfl Δ (bP rfl) fun t af=>?_;simp[V2,Xb,i148]at af;generalize(fun l=>if l=d then aJ else ah l:bq)=bH
  have w0:aT .i64 0=0:=rfl;have a0:∀{d n0 slot aa} {lk:Nat->Nat->Option aP} {new:List IV},aY d n0 lk aa 1 .nilsl new 0 slot=some (.r,.nilsl,aa):=fun{d n0 slot aa lk new}=>rfl;obtain⟨k,rfl⟩:∃ k,m=k+1+1+1+1:=⟨m-4,Z⟩;simp only[i148,V0,seval,af,yJ,yK,(show decide ((0:Int)<1)=true by rfl),(show decide ((1:Int)<1)=false by rfl),(show decide ((0:Int)<0)=false by rfl),w0,(rfl:aT .i64 (0+0)=0),(zA rfl Z Z:aT .i64 1=1),Yp (show 0<1 by omega),YJ,nlt,hg,zh,zl,zq,bW,a0,qZ];refine⟨.inr trivial,_,_,rfl,rfl,rfl⟩
 grind
theorem DS(hS:bk S){aa:aS}{id:Nat}(hm:3<=m):aL aO S m d ah aJ aa id 150 [.nilsl]=some (.x,.nilsl,aa):=by
 obtain⟨m,rfl⟩:=gv m 1;have main:∃ v aU,(∀ id,aL aO S (m+1) d ah aJ aa id 150 [.nilsl]=some (.x,v,aU))/\(v=.nilsl/\aU=aa):=by refine yq (i:=i150) (hS _ _ M M M M) rfl rfl (bP rfl) fun t af=>?_;simp[V2,Xb,i150]at af;simp only[i150,V0,seval,af,(show decide ((0:Int)<2)=true by rfl),ya,M5];simp
 grind
theorem zfo(hS:bk S)(xs:List Int)(h0:0<xs.length)(hn:xs.length<65536){aa:aS}{id:Nat}(hid:aa[id]?=some .free)
  (c1:∀ m,8<=m->∀ Cp aU id',aU[id']?=some .free->aL aO S m (d+1) (fun l=>if l=d then aJ else ah l) Cp aU id' 148 [v]=some (.a,.slM (d+1) id' 0 xs.length xs.length 1 false,aU.set id' (aH (xs.flatMap aK)))) :
  ∀ m,Nc+2*xs.length+30<=m->∃ c:List Int,c.length=xs.length/\c.take (gG xs).length=gG xs/\aL aO S m d ah aJ aa id 106 [v]=some (.a,.slM d id 0 (gG xs).length xs.length 1 false,aa.set id (aH (c.flatMap aK))):=by
 intro m hm
 obtain⟨m,rfl⟩:=gv m 2
 have main:∃ r,aL aO S (m+2) d ah aJ aa id 106 [v]=some r/\∃ c:List Int,c.length=xs.length/\c.take (gG xs).length=gG xs/\r=(.a,.slM d id 0 (gG xs).length xs.length 1 false,aa.set id (aH (c.flatMap aK))):=by
  refine zF (i:=i106) (hS _ _ M M M M) rfl Δ (bP rfl) fun t af=>?_;simp[V2,Xb,i106]at af;have c1:=fun aJ=>c1 (m+1) Z aJ [.free] 0 rfl;generalize(fun l=>if l=d then aJ else ah l:bq)=bH at c1 ⊢
  simp[RP]at c1;have hs:=fun id=>Ir (d:=d+1) (ah:=bH) (cp:=xs.length) (tg:=false) (cB:=[aH []]) (b:=0) hS M xs hn Z (m:=m+1) Z [aH (xs.flatMap aK),.free] [.free] id;have hp:=y9 xs;obtain⟨c,hc1,nM,MQ⟩:=DT hS (cB:=[aH []]) (b:=0) M (jP xs) (n:=xs.length) (cap:=xs.length) (tg:=false) hp.length_eq h0 hn (cI _) (m+1) Z (d+1) bH (Bk [aH []] 0 ((jP xs).flatMap aK)++([.free]++[.free])) ([.free]++[.free]);rw[(LX hp (Y4 xs))]at nM MQ;have hfl:(c.flatMap aK).length=xs.length:=by rw[zj ze];omega
  have eX:seg (c.flatMap aK) 0 (xs.length*1)=some (c.flatMap aK):=xgo
  have e1:∀(c:List IV)(J:aS),Bk [aH []] 0 c++J=aH c::J:=fun c J=>rfl;simp[e1,gu,fP]at hs MQ;simp only[i106,V0,seval,af,c1,hs,MQ];refine⟨.inr trivial,_,_,rfl,?_,c,hc1,nM,rfl⟩;simp only[leave,if_true,handed,rH,eX,(fun o=>YO c:∀(o:aS),(c.flatMap aK).mapM (freeze (m+1) (d+1) o)=some (c.flatMap aK)),dD,hid,zi]
 grind
theorem zde(hS:bk S)(h4:4<=Nc)(xs:List Int)(h0:0<xs.length)(hn:xs.length<65536){cap:Nat}{aa:aS}{id:Nat}(hl:l<=d)(hb:(if l=d then aJ else ah l)[b]?=some (aH (xs.flatMap aK)))(hid:aa[id]?=some .free) :
  ∀ m,Nc+2*xs.length+30<=m->∃ c:List Int,c.length=xs.length/\c.take (gG xs).length=gG xs/\aL aO S m d ah aJ aa id 106 [.slC [.slM l b 0 xs.length cap 1 tg] 1 1 tt]=some (.a,.slM d id 0 (gG xs).length xs.length 1 false,aa.set id (aH (c.flatMap aK))) :=
 zfo hS xs h0 hn hid fun m hm Cp aU id' ac0=>Gx hS xs h0 Z Z (by grind) ac0 m hm
def Vz(a b:IV):(if 1<=(rep [a] 1).length then some (dS (rep [a] 1) 0 [b])else none)=some [b]:=rfl
theorem zdg(hS:bk S){aa:aS}{id:Nat}(hm:Nc+60<=m):aL aO S m d ah aJ aa id 106 [.slC [.nilsl] 1 1 tt]=some (.r,.nilsl,aa):=by
 obtain⟨m,rfl⟩:=gv m 2;have main:∃ r,aL aO S (m+2) d ah aJ aa id 106 [.slC [.nilsl] 1 1 tt]=some r/\r=(.r,.nilsl,aa):=by
  refine zF (i:=i106) (hS _ _ M M M M) rfl Δ (bP rfl) fun t af=>?_;simp[V2,Xb,i106]at af;generalize(fun l=>if l=d then aJ else ah l:bq)=bH
  obtain⟨J',c2⟩:=uM hS (d:=d+1) (ah:=bH) (aJ:=[.free,.free]) (aa:=[.free,.free]) (m:=m+1) Z;simp only[i106,V0,seval,af,(fun d ah aJ aa id=>concat_nil hS (tt:=tt) (d:=d) (ah:=ah) (aJ:=aJ) (aa:=aa) (id:=id) (m:=m+1) Z),c2,(fun d ah aJ aa id=>DS hS (d:=d) (ah:=ah) (aJ:=aJ) (aa:=aa) (id:=id) (m:=m+1) Z)];exact xdf
 grind
def SJ(xs:List Int)(h:xs.length<9223372036854775808):aR 1 aK:=if xs=[]then kU 1 aK else gB ze xs xs.length false rfl h
theorem VH(xs:List Int)(h:xs.length<9223372036854775808):(SJ xs h).l=xs:=by
 unfold SJ;split
 .rename_i e;exact e.symm
 rfl
theorem Zc(xs:List Int):(gG xs).length<=xs.length:=by
 have h:∀(xs o:List Int),(xs.foldl (fun o n=>gT n o) o).length<=o.length+xs.length:=fun xs=>by
  induction xs with
  |nil=>simp
  |cons x xs ih =>
   intro o
   have h1:=ih (gT x o)
   have h2:∀ o:List Int,(gT x o).length<=o.length+1:=fun o=>by
    induction o with
    |nil=>simp[gT]
    |cons y o ih2 =>
     unfold gT
     grind
   grind
 have:=h xs [];simpa[gG]using this
theorem Zu{xs:List Int}(h:xs.length<65536):(gG xs).length<9223372036854775808:=by have:=Zc xs;omega
theorem Tq{xs:List Int}:gG xs=[]↔xs=[]:=by
 constructor
 .intro h;cases xs with
  |nil=>rfl
  |cons x xs =>
   have:x∈gG (x::xs):=xC.2 (qj ..)
   grind
 .rintro rfl;rfl
theorem FD(hS:bk S)(h4:4<=Nc)(xs:List Int)(hn:xs.length<65536){aa:aS}{id:Nat}(h:Mv d ah aJ lv xs) :
  ∀ m,Nc+2*xs.length+70<=m->aL aO S m d ah aJ aa id 147 [lv]=some (.r,(SJ (gG xs) (Zu hn)).v,aa):=by
 intro m hm
 obtain⟨m,rfl⟩:=gv m 3
 have main:∃ r,aL aO S (m+3) d ah aJ aa id 147 [lv]=some r/\r=(.r,(SJ (gG xs) (Zu hn)).v,aa):=by
  refine zF (i:=i147) (hS _ _ M M M M) rfl Δ (bP rfl) fun t af=>?_;simp[V2,Xb,i147]at af;rcases h with⟨rfl,rfl⟩|⟨l,b,cap,tg,hne,hcap,hl,rfl,hb⟩
  .generalize(fun l=>if l=d then aJ else ah l:bq)=bH
   simp only[i147,V0,seval,af,Vz,(fun d ah aJ aa id tt=>zdg hS (Nc:=Nc) (tt:=tt) (d:=d) (ah:=ah) (aJ:=aJ) (aa:=aa) (id:=id) (m:=m+2) Z)];exact xdf
  .have mB:¬ l=d+1:=Z;have hb':((fun l=>if l=d then aJ else ah l:bq) l)[b]?=some (aH (xs.flatMap aK)):=hb
   clear hb;generalize(fun l=>if l=d then aJ else ah l:bq)=bH at hb' ⊢
   obtain⟨c,hc1,nM,MQ⟩:=zde hS h4 xs (MH.2 hne) hn (l:=l) (b:=b) (cap:=cap) (tg:=tg) (tt:=true) (d:=d+1) (ah:=bH) (aJ:=[.free]) (aa:=[.free]) (id:=0) Z (by grind) rfl (m+2) Z;simp only[i147,V0,seval,af,Vz,MQ];refine⟨.inr trivial,_,_,rfl,?_,rfl⟩;have eX:seg (c.flatMap aK) 0 ((gG xs).length*1)=some ((gG xs).flatMap aK):=by have h1:=zj ze (l:=c);have h2:=Zc xs;unfold seg;rw[zi,bU Z,s7,vf ze Z,nM]
   have hf2:freeze (m+2) (d+1) [aP.cells (c.flatMap aK)] (.slM (d+1) 0 0 (gG xs).length xs.length 1 false)=some (gB ze (gG xs) (gG xs).length false rfl (Zu hn)).v:=by
    show(if d+1=d+1 then((seg (c.flatMap aK) 0 ((gG xs).length*1)).bind fun s=>s.mapM (freeze (m+1) (d+1) [aP.cells (c.flatMap aK)])).map (IV.slC · (gG xs).length 1 (false&&xs.length==(gG xs).length))else some _)=_
    rw[bU rfl,eX,iD,(fun o=>YO _)];rfl
   unfold SJ;rw[b9 (fun h=>hne (Tq.1 h))];show(freeze (m+2) (d+1) [aP.cells (c.flatMap aK)] (.slM (d+1) 0 0 (gG xs).length xs.length 1 false)).map (fun v'=>(dI.r,v',aa))=_;grind
 grind
end
structure DK where
 sz:Nat
 z:List IV
 idx:FuncId
 ids:FuncId
 Qc:FuncId
 dif:FuncId
def GB(X:DK):gP:=⟨32,[(.tmp 4)],(.seq (.region false 1 [⟨(.some 2),(.box (.tmp 0) 0),.none,[]⟩,⟨(.some 4),(.mov (.const .dY)),.none,[]⟩] []) (.seq (.region false 1 [⟨(.some 8),(.mkmap 0),.none,[]⟩,⟨(.some 5),(.mov (.tmp 8)),.none,[]⟩] []) (.seq (.seq (.region false 0 [⟨(.some 9),(.mov (.tmp 1)),.none,[]⟩,⟨(.some 10),(.len 1 (.tmp 9)),.none,[]⟩,⟨(.some 11),(.mov (.const (aB 0))),.none,[]⟩] []) (.block 0 (.loop (.seq (.region false 0 [⟨(.some 12),(.bin .lss (.tmp 11) (.tmp 10)),.none,[]⟩] []) (.seq (.cond (.tmp 12) .skip (.exit 0)) (.seq (.block 1 (.seq (.region false 0 [⟨(.some 13),(.mov (.tmp 11)),.none,[]⟩,⟨(.some 6),(.mov (.tmp 13)),.none,[]⟩] []) (.seq (.region true 1 [⟨(.some 14),(.faddr 1 (.tmp 2)),.none,[]⟩,⟨(.some 15),(.load false 1 (.tmp 14)),.none,[]⟩,⟨(.some 16),(.mov (.tmp 1)),.none,[]⟩,⟨(.some 17),(.mov (.tmp 6)),.none,[]⟩,⟨(.some 18),(.iaddr X.sz (.tmp 16) (.tmp 17)),.none,[]⟩,⟨(.some 19),(.load true X.sz (.tmp 18)),.none,[]⟩,⟨(.some 20),(.call (.tmp 15) [(.tmp 19)] 0),.none,[]⟩,⟨(.some 7),(.mov (.tmp 20)),.none,[0]⟩] [(1,5)]) (.seq (.region false 0 [⟨(.some 21),(.mov (.tmp 5)),.none,[]⟩,⟨(.some 22),(.mov (.tmp 7)),.none,[]⟩,⟨(.some 23),(.lookup .bw (false,[1]) false (.tmp 21) (.tmp 22)),.none,[]⟩,⟨(.some 24),(.eqp false (.tmp 23) (.const .bw)),.none,[]⟩] []) (.cond (.tmp 24) (.region false 0 [⟨(.some 25),(.mov (.tmp 5)),.none,[]⟩,⟨(.some 26),(.mov (.tmp 7)),.none,[]⟩,⟨(.some 27),(.mov (.tmp 1)),.none,[]⟩,⟨(.some 28),(.mov (.tmp 6)),.none,[]⟩,⟨(.some 29),(.iaddr X.sz (.tmp 27) (.tmp 28)),.none,[]⟩,⟨.none,(.mapupd (false,[1]) (.tmp 25) (.tmp 26) (.tmp 29)),.none,[]⟩] []) .skip))))) (.region false 0 [⟨(.some 30),(.bin .add (.tmp 11) (.const (aB 1))),.none,[]⟩,⟨(.some 11),(.mov (.tmp 30)),.none,[]⟩] []))))))) (.seq (.region false 0 [⟨(.some 31),(.mov (.tmp 5)),.none,[]⟩,⟨(.some 4),(.mov (.tmp 31)),.none,[]⟩] []) .ret)))),0⟩
def p9(X:DK):gP:=⟨33,[(.tmp 4)],(.seq (.region false 1 [⟨(.some 2),(.box (.tmp 0) 0),.none,[]⟩,⟨(.some 4),(.mov (.const .nilsl)),.none,[]⟩] []) (.seq (.region false 0 [⟨(.some 5),(.mov (.const .nilsl)),.none,[]⟩] []) (.seq (.seq (.region false 0 [⟨(.some 10),(.mov (.tmp 1)),.none,[]⟩,⟨(.some 11),(.len 1 (.tmp 10)),.none,[]⟩,⟨(.some 12),(.mov (.const (aB 0))),.none,[]⟩] []) (.block 0 (.loop (.seq (.region false 0 [⟨(.some 13),(.bin .lss (.tmp 12) (.tmp 11)),.none,[]⟩] []) (.seq (.cond (.tmp 13) .skip (.exit 0)) (.seq (.block 1 (.seq (.region false 0 [⟨(.some 14),(.iaddr 1 (.tmp 10) (.tmp 12)),.none,[]⟩,⟨(.some 15),(.load false 1 (.tmp 14)),.none,[]⟩,⟨(.some 7),(.mov (.tmp 15)),.none,[]⟩] []) (.seq (.region false 0 [⟨(.some 16),(.mov (.tmp 7)),.none,[]⟩,⟨(.some 17),(.len 1 (.tmp 16)),.none,[]⟩,⟨(.some 18),(.mov (.const (aB 0))),.none,[]⟩] []) (.block 2 (.loop (.seq (.region false 0 [⟨(.some 19),(.bin .lss (.tmp 18) (.tmp 17)),.none,[]⟩] []) (.seq (.cond (.tmp 19) .skip (.exit 2)) (.seq (.block 3 (.seq (.region false 1 [⟨(.some 20),(.iaddr X.sz (.tmp 16) (.tmp 18)),.none,[]⟩,⟨(.some 21),(.load true X.sz (.tmp 20)),.none,[]⟩,⟨(.some 9),(.newv X.z 0),.none,[]⟩,⟨.none,(.store X.sz (.tmp 9) (.tmp 21)),.none,[]⟩] []) (.region false 2 [⟨(.some 22),(.mov (.tmp 5)),.none,[]⟩,⟨(.some 23),(.faddr 1 (.tmp 2)),.none,[]⟩,⟨(.some 24),(.load false 1 (.tmp 23)),.none,[]⟩,⟨(.some 25),(.load true X.sz (.tmp 9)),.none,[]⟩,⟨(.some 26),(.call (.tmp 24) [(.tmp 25)] 0),.none,[]⟩,⟨(.some 27),(.bslice [(aB 0)] 1 1 [(0,(1,(.tmp 26)))]),.none,[]⟩,⟨(.some 28),(.append [(aB 0)] 1 false (.tmp 22) (.tmp 27) 1),.none,[]⟩,⟨(.some 5),(.mov (.tmp 28)),.none,[]⟩] []))) (.region false 0 [⟨(.some 29),(.bin .add (.tmp 18) (.const (aB 1))),.none,[]⟩,⟨(.some 18),(.mov (.tmp 29)),.none,[]⟩] []))))))))) (.region false 0 [⟨(.some 30),(.bin .add (.tmp 12) (.const (aB 1))),.none,[]⟩,⟨(.some 12),(.mov (.tmp 30)),.none,[]⟩] []))))))) (.seq (.region false 1 [⟨(.some 31),(.mov (.tmp 5)),.none,[]⟩,⟨(.some 32),(.call (.const (.fn 147 [] [])) [(.tmp 31)] 0),.none,[]⟩,⟨(.some 4),(.mov (.tmp 32)),.none,[]⟩] []) .ret)))),0⟩
def L5(X:DK):gP:=⟨23,[(.tmp 6)],(.seq (.region false 3 [⟨(.some 3),(.box (.tmp 0) 0),.none,[]⟩,⟨(.some 4),(.box (.tmp 1) 1),.none,[]⟩,⟨(.some 5),(.box (.tmp 2) 2),.none,[]⟩,⟨(.some 6),(.mov (.const (.bool false))),.none,[]⟩] []) (.seq (.seq (.region false 0 [⟨(.some 9),(.faddr 2 (.tmp 3)),.none,[]⟩,⟨(.some 10),(.load false 1 (.tmp 9)),.none,[]⟩,⟨(.some 11),(.len 1 (.tmp 10)),.none,[]⟩,⟨(.some 12),(.mov (.const (aB 0))),.none,[]⟩] []) (.block 0 (.loop (.seq (.region false 0 [⟨(.some 13),(.bin .lss (.tmp 12) (.tmp 11)),.none,[]⟩] []) (.seq (.cond (.tmp 13) .skip (.exit 0)) (.seq (.block 1 (.seq (.region false 1 [⟨(.some 14),(.iaddr 2 (.tmp 10) (.tmp 12)),.none,[]⟩,⟨(.some 15),(.load true 2 (.tmp 14)),.none,[]⟩,⟨(.some 8),(.newv [.iX,.iX] 0),.none,[]⟩,⟨.none,(.store 2 (.tmp 8) (.tmp 15)),.none,[]⟩] []) (.seq (.region false 1 [⟨(.some 16),(.faddr 0 (.tmp 8)),.none,[]⟩,⟨(.some 17),(.load false 1 (.tmp 16)),.none,[]⟩,⟨(.some 18),(.load true X.sz (.tmp 4)),.none,[]⟩,⟨(.some 19),(.load true X.sz (.tmp 5)),.none,[]⟩,⟨(.some 20),(.call (.tmp 17) [(.tmp 18),(.tmp 19)] 0),.none,[]⟩,⟨(.some 21),(.un .not (.tmp 20)),.none,[]⟩] []) (.cond (.tmp 21) (.seq (.region false 0 [⟨(.some 6),(.mov (.const (.bool false))),.none,[]⟩] []) .ret) .skip)))) (.region false 0 [⟨(.some 22),(.bin .add (.tmp 12) (.const (aB 1))),.none,[]⟩,⟨(.some 12),(.mov (.tmp 22)),.none,[]⟩] []))))))) (.seq (.region false 0 [⟨(.some 6),(.mov (.const (.bool true))),.none,[]⟩] []) .ret))),0⟩
def DV(X:DK):gP:=⟨61,[(.tmp 6)],(.seq (.region false 1 [⟨(.some 3),(.box (.tmp 0) 0),.none,[]⟩,⟨(.some 6),(.mov (.const .nilsl)),.none,[]⟩] []) (.seq (.region true 2 [⟨(.some 13),(.load true 3 (.tmp 3)),.none,[]⟩,⟨(.some 14),(.mov (.tmp 1)),.none,[]⟩,⟨(.some 15),(.call (.const (.fn X.idx [] [])) [(.tmp 13),(.tmp 14)] 0),.none,[]⟩,⟨(.some 16),(.load true 3 (.tmp 3)),.none,[]⟩,⟨(.some 17),(.mov (.tmp 2)),.none,[]⟩,⟨(.some 18),(.call (.const (.fn X.idx [] [])) [(.tmp 16),(.tmp 17)] 1),.none,[0]⟩,⟨(.some 7),(.mov (.tmp 15)),.none,[0,1]⟩,⟨(.some 8),(.mov (.tmp 18)),.none,[0,1]⟩] [(0,3),(2,3)]) (.seq (.seq (.region false 1 [⟨(.some 19),(.load true 3 (.tmp 3)),.none,[]⟩,⟨(.some 20),(.mov (.tmp 1)),.none,[]⟩,⟨(.some 21),(.mov (.tmp 2)),.none,[]⟩,⟨(.some 22),(.bslice [.nilsl] 1 2 [(0,(1,(.tmp 20))),(1,(1,(.tmp 21)))]),.none,[]⟩,⟨(.some 23),(.call (.const (.fn X.ids [] [])) [(.tmp 19),(.tmp 22)] 0),.none,[]⟩,⟨(.some 24),(.len 1 (.tmp 23)),.none,[]⟩,⟨(.some 25),(.mov (.const (aB 0))),.none,[]⟩] []) (.block 0 (.loop (.seq (.region false 0 [⟨(.some 26),(.bin .lss (.tmp 25) (.tmp 24)),.none,[]⟩] []) (.seq (.cond (.tmp 26) .skip (.exit 0)) (.seq (.block 1 (.seq (.region false 0 [⟨(.some 27),(.iaddr 1 (.tmp 23) (.tmp 25)),.none,[]⟩,⟨(.some 28),(.load false 1 (.tmp 27)),.none,[]⟩,⟨(.some 10),(.mov (.tmp 28)),.none,[]⟩] []) (.seq (.region true 0 [⟨(.some 29),(.mov (.tmp 7)),.none,[]⟩,⟨(.some 30),(.mov (.tmp 10)),.none,[]⟩,⟨(.some 31),(.lookup .bw (false,[1]) false (.tmp 29) (.tmp 30)),.none,[]⟩,⟨(.some 32),(.mov (.tmp 8)),.none,[]⟩,⟨(.some 33),(.mov (.tmp 10)),.none,[]⟩,⟨(.some 34),(.lookup .bw (false,[1]) false (.tmp 32) (.tmp 33)),.none,[]⟩,⟨(.some 11),(.mov (.tmp 31)),.none,[]⟩,⟨(.some 12),(.mov (.tmp 34)),.none,[]⟩] [(2,5)]) (.seq (.region true 1 [⟨(.some 35),(.mov (.tmp 11)),.none,[]⟩,⟨(.some 36),(.eqp false (.tmp 35) (.const .bw)),.none,[]⟩,⟨(.some 37),(.mov (.tmp 36)),.none,[]⟩,⟨(.some 38),(.mov (.tmp 12)),(.some (37,false)),[]⟩,⟨(.some 39),(.eqp false (.tmp 38) (.const .bw)),(.some (37,false)),[]⟩,⟨(.some 40),(.pick (.tmp 37) (.const (.bool true)) (.tmp 39)),.none,[]⟩,⟨(.some 41),(.mov (.tmp 40)),.none,[]⟩,⟨(.some 42),(.load true 3 (.tmp 3)),(.some (41,false)),[]⟩,⟨(.some 43),(.mov (.tmp 11)),(.some (41,false)),[]⟩,⟨(.some 44),(.nilchk (.tmp 43)),(.some (41,false)),[]⟩,⟨(.some 45),(.load true X.sz (.tmp 44)),(.some (41,false)),[]⟩,⟨(.some 46),(.mov (.tmp 12)),(.some (41,false)),[]⟩,⟨(.some 47),(.nilchk (.tmp 46)),(.some (41,false)),[]⟩,⟨(.some 48),(.load true X.sz (.tmp 47)),(.some (41,false)),[]⟩,⟨(.some 49),(.call (.const (.fn X.Qc [] [])) [(.tmp 42),(.tmp 45),(.tmp 48)] 0),(.some (41,false)),[]⟩,⟨(.some 50),(.un .not (.tmp 49)),(.some (41,false)),[0]⟩,⟨(.some 51),(.pick (.tmp 41) (.const (.bool true)) (.tmp 50)),.none,[0]⟩] [(7,10),(7,13),(10,13)]) (.cond (.tmp 51) (.region false 1 [⟨(.some 52),(.mov (.tmp 6)),.none,[]⟩,⟨(.some 53),(.faddr 0 (.tmp 3)),.none,[]⟩,⟨(.some 54),(.load false 1 (.tmp 53)),.none,[]⟩,⟨(.some 55),(.mov (.tmp 10)),.none,[]⟩,⟨(.some 56),(.build [(aB 0),(aB 0)] [(0,(1,(.tmp 54))),(1,(1,(.tmp 55)))]),.none,[]⟩,⟨(.some 57),(.bslice [(aB 0),(aB 0)] 2 1 [(0,(2,(.tmp 56)))]),.none,[]⟩,⟨(.some 58),(.append [(aB 0),(aB 0)] 2 false (.tmp 52) (.tmp 57) 0),.none,[]⟩,⟨(.some 6),(.mov (.tmp 58)),.none,[]⟩] []) .skip))))) (.region false 0 [⟨(.some 59),(.bin .add (.tmp 25) (.const (aB 1))),.none,[]⟩,⟨(.some 25),(.mov (.tmp 59)),.none,[]⟩] []))))))) (.seq (.region false 0 [⟨(.some 60),(.mov (.tmp 6)),.none,[]⟩,⟨(.some 6),(.mov (.tmp 60)),.none,[]⟩] []) .ret)))),1⟩
structure DkOK(S:bX)(X:DK):Prop where
 idx:(∀ args,S X.idx args=none)/\aO X.idx=some (GB X)
 ids:(∀ args,S X.ids args=none)/\aO X.ids=some (p9 X)
 Qc:(∀ args,S X.Qc args=none)/\aO X.Qc=some (L5 X)
 dif:(∀ args,S X.dif args=none)/\aO X.dif=some (DV X)
def oW(c:List IV)(sz:Nat):Option Nat->IV
 |none=>.bw
 |some k=>.ptrC c (k*sz)
def dG(ids:List Int):Nat->List (Int×Option Nat)
 |0=>[]
 |n+1=>match ids[n]? with
  |none=>dG ids n
  |some a=>if (gR none (dG ids n) a).isNone then mI (dG ids n) a (some n)else dG ids n
theorem zfp(ids:List Int)(a:Int):∀ n,gR none (dG ids n) a=(ids.take n).findIdx? fun b=>b==a
 |0=>rfl
 |n+1=>by
  have ih:=zfp ids a n;unfold dG;cases h:ids[n]? with
  |none =>
   have:ids.length<=n:=by grind
   simp only[ih]
   rw[fT this,fT Z]
  |some b =>
   have au:n<ids.length:=(ew.1 h).1
   have ihb:=zfp ids b n
   rw[jh,h,zlc,←ih,(show(ids.take n).length=n by grind)]
   simp only[oP,Vx,List.findIdx?_nil]
   cases hb:gR none (dG ids n) b with
   |none =>
    simp only[Option.isNone_none,if_true,zdz]
    grind
   |some k =>
    grind
theorem Uc{off:Nat}(h:∀ x∈cs,Fz k x):Fz (k+1) (.ptrC cs off):=fun m hm lv aa=>by obtain⟨m,rfl⟩:=gv m 1;simp[freeze,zD fun x hx=>h x hx m Z lv aa,iJ]
theorem Tx{u:I->IV}{aa:aS}(hn:k+2<=n){L:List (Int×I)}{bs:List Nat}(h:aa[i]?=some (.map (eD L) (eL u L) bs ck))(hu:∀ x,Fz k (u x)):freeze n D aa (.mapM D i)=some (.cR (eD L) (eL u L)):=by
 obtain⟨n,rfl⟩:=gv n 1;have h1:(eD L).mapM (freeze n D aa)=some (eD L):=zD fun x hx=>xfl
 have h2:(eL u L).mapM (freeze n D aa)=some (eL u L):=zD fun x hx=>by obtain⟨a,_,rfl⟩:=kO.1 hx;exact hu _ n Z _ _
 simp[freeze,if_true,h,h1,h2]
variable {X:DK}{aW:H->Int}{k8:FuncId}{nf:Nat}{nn:Int}{tf:Bool}
section
variable {g:H->List IV} {fs:List IV} 
def eP(nn:Int)(k8:FuncId)(fs:List IV)(nf:Nat)(tf:Bool):IV:=.agg [aB nn,.fn k8 [] [],.slC fs nf 2 tf]
theorem xP(hX:DkOK S X)(hg:∀ a,(g a).length=X.sz)(nh:∀ a,(g a).all IV.scalar=true)(sC:∀ a,∀ x∈g a,Fz 6 x)(hid:∀ x,aM S 4 k8 [.agg (g x)] (aB (aW x)))(l:aR X.sz g):aM S (l.l.length+20) X.idx [eP nn k8 fs nf tf,l.v] (.cR (eD (dG (l.l.map aW) l.l.length)) (eL (oW (l.l.flatMap g) X.sz) (dG (l.l.map aW) l.l.length))):=by
 refine zr (i:=GB X) (hX.idx.1 _) hX.idx.2 rfl (bP rfl) (l.l.length+19) fun m hm d ah t af=>?_;simp[V2,Xb,GB,eP]at af;have hlf:=l.eZ;have hu:∀ o,Fz 7 (oW (l.l.flatMap g) X.sz o):=fun o=>by
  cases o with
  |none =>
   intro m hm _ _
   obtain⟨m,rfl⟩:=gv m 1
   rfl
  |some k =>
   refine Uc fun x hx=>?_
   grind
 have fin:∀(t':List IV)(J:aS)(O0:aP)(bs:List Nat)(ck:Nat)(n:Nat),n=l.l.length->aN 32 t' [(4,.mapM d 1)]->Eo d ah (GB X).res m (.cR (eD (dG (l.l.map aW) l.l.length)) (eL (oW (l.l.flatMap g) X.sz) (dG (l.l.map aW) l.l.length))) .ret ⟨t',O0::.map (eD (dG (l.l.map aW) n)) (eL (oW (l.l.flatMap g) X.sz) (dG (l.l.map aW) n)) bs ck::J⟩:=by intro t' J O0 bs ck n hn ht;subst hn;simp[za,zb]at ht;rw[yj];refine⟨.mapM d 1,?_,Tx Z rfl hu⟩;simp[GB,V0,seval,ht]
 suffices jc:∀ K:eU,(∀(t':List IV)(J:aS)(O0:aP)(bs:List Nat)(ck:Nat)(n:Nat),n=l.l.length->aN 32 t' [(4,.mapM d 1)]->K .ret ⟨t',O0::.map (eD (dG (l.l.map aW) n)) (eL (oW (l.l.flatMap g) X.sz) (dG (l.l.map aW) n)) bs ck::J⟩)->Ex (aL aO S m) d ah m (GB X).body K ⟨t,[]⟩from jc _ fin
 clear fin;intro K fin;simp[GB,V0,seval,af];refine zm l.l.length (fun i st=>∃(bs:List Nat)(ck:Nat)(J:aS),st.aa=aH [aB nn,.fn k8 [] [],.slC fs nf 2 tf]::.map (eD (dG (l.l.map aW) i)) (eL (oW (l.l.flatMap g) X.sz) (dG (l.l.map aW) i)) bs ck::J/\aN 32 st.t [(1,l.v),(2,.ptrM d 0 0),(5,.mapM d 1),(10,iv (l.l.length:Nat)),(11,iv i)]) Z ⟨[],0,[],rfl,by simp[V0,seval,af,cZ]⟩ ?_;clear af;rintro i ⟨t,aa⟩ KA hi ⟨bs,ck,J,rfl,af⟩ bp bK bQ;simp[za,zb,zf]at af;by_cases h:i<l.l.length
 .obtain⟨x,hx⟩:=fc (l:=l.l) (i:=i) h;have hrd:bB (l.l.flatMap g) (i*X.sz) X.sz=some (g x):=by have h1:=zd hg 0 X.sz hx Z;exact xb1
  have hw:=zt i;have cid:=hid x m Z;have hxi:(l.l.map aW)[i]?=some (aW x):=by grind
  have Jm:∀(O0:aP)(J:aS)(C:Call)(n0:Nat)(aa:aS)(t:List IV)(a b:bD),ρ t a=.mapM d 1->ρ t b=aB (aW x)->bY C d ah n0 (O0::.map (eD (dG (l.l.map aW) i)) (eL (oW (l.l.flatMap g) X.sz) (dG (l.l.map aW) i)) bs ck::J) aa t (.lookup .bw (false,[1]) false a b)=some (.r,oW (l.l.flatMap g) X.sz (gR none (dG (l.l.map aW) i) (aW x)),aa):=fun O0 J C n0 aa t a b h1 h2=>Ya (u:=oW (l.l.flatMap g) X.sz) (bs:=bs) (ck:=ck) none (aW x) rfl h1 h2 (by unfold look;simp);have hstep:dG (l.l.map aW) (i+1)=if (gR none (dG (l.l.map aW) i) (aW x)).isNone then mI (dG (l.l.map aW) i) (aW x) (some i)else dG (l.l.map aW) i:=by
   conv=>lhs;unfold dG
   grind
  obtain⟨bs',gX,CZ⟩:=Bq (u:=oW (l.l.flatMap g) X.sz) (dG (l.l.map aW) i) bs ck (aW x) (some i);have FX:=fun C n0 aJ aa t a b c=>CZ C d ah n0 1 aJ aa t a b c;simp only[show oW (l.l.flatMap g) X.sz (some i)=.ptrC (l.l.flatMap g) (i*X.sz)from rfl]at FX;have ft:(false != true)=true:=rfl;cases hk:gR none (dG (l.l.map aW) i) (aW x)with
  |none =>
   rw[hk,Option.isNone_none,bU rfl]at hstep
   simp[hk]at Jm
   simp only[V0,seval,af,h,zc l h,hrd,cid,Jm,oW,jX,Bb,ft,FX,hw]
   refine bp Z _ ⟨bs',gX,_,by rw[hstep],bS⟩
  |some k =>
   rw[hk,Option.isNone_some,b9 M]at hstep
   simp[hk]at Jm
   simp only[V0,seval,af,h,zc l h,hrd,cid,Jm,oW,jX,Bb,ft,hw]
   refine bp Z _ ⟨bs,ck,_,by rw[hstep],bS⟩
 .simp[V0,seval,af,h];refine bK _ _ ?_;simp[V0,seval,af];obtain rfl:i=l.l.length:=Z;exact fin _ _ _ _ _ _ rfl bS
theorem zaa(hX:DkOK S X)(nh:∀ a,(g a).all IV.scalar=true)(hg:∀ a,(g a).length=X.sz)(F:List (FuncId×FuncId×(H->H->Bool)))(hF:F.length<=10)(x y:H)(hs:∀ f∈F,aM S 60000 f.1 [.agg (g x),.agg (g y)] (.bool (f.2.2 x y))):aM S 60020 X.Qc [eP nn k8 (F.flatMap fun f=>[.fn f.1 [] [],.fn f.2.1 [] []]) F.length tf,.agg (g x),.agg (g y)] (.bool (F.all fun f=>f.2.2 x y)):=by
 refine zg (i:=L5 X) (hX.Qc.1 _) hX.Qc.2 rfl (bP rfl) 60019 Z zk fun m hm d ah t af=>?_;simp[V2,Xb,L5,eP]at af;have pK:∀ x,bB (g x) 0 X.sz=some (g x):=fun x=>xb1
 have hcx:∀ x:H,(IV.agg (g x)).cells=g x:=fun x=>rfl;simp[L5,V0,seval,af,hcx,nh];refine zm F.length (fun i st=>∃(J:aS),(F.take i).all (fun f=>f.2.2 x y)=true/\st.aa=aH [aB nn,.fn k8 [] [],.slC (F.flatMap fun f=>[.fn f.1 [] [],.fn f.2.1 [] []]) F.length 2 tf]::aH (g x)::aH (g y)::J/\aN 23 st.t [(3,.ptrM d 0 0),(4,.ptrM d 1 0),(5,.ptrM d 2 0),(10,.slC (F.flatMap fun f=>[.fn f.1 [] [],.fn f.2.1 [] []]) F.length 2 tf),(11,iv (F.length:Nat)),(12,iv i)]) Z ⟨[],rfl,rfl,by simp[V0,seval,af,hcx,nh,cZ]⟩ ?_;clear af;rintro i ⟨t,aa⟩ KA hi ⟨J,hall,rfl,af⟩ bp bK bQ;simp[za,zb,zf]at af;by_cases h:i<F.length
 .have hx:F[i]?=some F[i]:=dw h;have hmem:F[i]∈F:=gQ h;generalize F[i]=f at hx hmem;have hrd:bB (F.flatMap fun f=>[IV.fn f.1 [] [],.fn f.2.1 [] []]) (i*2) 2=some [.fn f.1 [] [],.fn f.2.1 [] []]:=(zd (sz:=2) (g:=fun f:FuncId×FuncId×(H->H->Bool)=>[IV.fn f.1 [] [],.fn f.2.1 [] []]) (fun _=>rfl) 0 2 hx Z).trans rfl;have kX:∀ aa,cu aa 2 (.slC (F.flatMap fun f=>[IV.fn f.1 [] [],.fn f.2.1 [] []]) F.length 2 tf) (aB (i:Int))=some (.p,.ptrC (F.flatMap fun f=>[IV.fn f.1 [] [],.fn f.2.1 [] []]) (i*2),aa):=fun aa=>zC h;have cs:=hs f hmem m Z;have pL:(F.take (i+1)).all (fun f=>f.2.2 x y)=f.2.2 x y:=by rw[jh,hx,oP,Vt,hall,rF];simp
  cases hq:f.2.2 x y
  .simp[V0,seval,af,h,kX,hrd,pK,cs,hq];refine bQ _ ?_;have hf:F.all (fun f=>f.2.2 x y)=false:=by grind
   simp[V0,seval,af,L5,hf]
  .simp only[V0,seval,af,h,kX,hrd,pK,cs,hq,(zt i)];exact bp Z _ ⟨_,by grind,rfl,bS⟩
 .simp[V0,seval,af,h];refine bK _ _ ?_;obtain rfl:i=F.length:=Z;rw[rD]at hall;simp[V0,seval,af,L5,hall]
theorem IQ(hS:bk S)(h4:4<=Nc)(hX:DkOK S X)(hz:X.z.length=X.sz)(hg:∀ a,(g a).length=X.sz)(nh:∀ a,(g a).all IV.scalar=true)(hzs:X.z.all IV.scalar=true)(hid:∀ x,aM S 4 k8 [.agg (g x)] (aB (aW x)))(ls:List (aR X.sz g))(tt:Bool)
  (hn:(ls.flatMap fun l=>l.l.map aW).length<65536) (hls:ls.length<=10):aM S (Nc+200000) X.ids [eP nn k8 fs nf tf,.slC (ls.map fun l=>l.v) ls.length 1 tt] (SJ (gG (ls.flatMap fun l=>l.l.map aW)) (Zu hn)).v:=by
 refine zr (i:=p9 X) (hX.ids.1 _) hX.ids.2 rfl (bP rfl) (Nc+199999) fun m hm d ah t af=>?_
 simp[V2,Xb,p9,eP]at af
 have fin:∀(t':List IV)(Pre J:aS)(lv:IV),bE aK 1 d Pre.length J lv (ls.flatMap fun l=>l.l.map aW)->aN 33 t' [(5,lv)]->Ex (aL aO S m) d ah m ((p9 X).body.sub [1,1,1]) (Eo d ah (p9 X).res m (SJ (gG (ls.flatMap fun l=>l.l.map aW)) (Zu hn)).v) ⟨t',Pre++J⟩:=by
  intro t' Pre J lv hO ht;simp[za,zb]at ht;have hw:Mv d ah (Pre++J++[.free]) lv (ls.flatMap fun l=>l.l.map aW):=by
   rcases hO with⟨h1,h2⟩|⟨b,hne,rfl,hb⟩
   .exact .inl ⟨h1,h2⟩
   .refine .inr ⟨d,_,_,_,hne,cI _,cI _,rfl,?_⟩;grind
  have cn:=fun aa id=>FD hS h4 _ hn (aa:=aa) (id:=id) hw m Z;simp[mo]at cn;simp only[p9,IC.sub,V0,seval,ht,cn,yj];exact⟨_,rfl,zP yO _ _ Z _ _⟩
 show Ex (aL aO S m) d ah m (.seq ((p9 X).body.sub [0]) (.seq ((p9 X).body.sub [1,0]) (.seq ((p9 X).body.sub [1,1,0]) ((p9 X).body.sub [1,1,1])))) _ _
 have hB:(p9 X).body.sub [1,1,1]=(p9 X).body.sub [1,1,1]:=rfl
 generalize hBB:(p9 X).body.sub [1,1,1]=BB at fin ⊢
 clear hBB hB
 simp[p9,IC.sub,V0,seval,af]
 refine zm ls.length (fun i st=>∃(J:aS)(lv:IV),bE aK 1 d 1 J lv ((ls.take i).flatMap fun l=>l.l.map aW)/\st.aa=aH [aB nn,.fn k8 [] [],.slC fs nf 2 tf]::J/\aN 33 st.t [(2,.ptrM d 0 0),(5,lv),(10,.slC (ls.map fun l=>l.v) ls.length 1 tt),(11,iv (ls.length:Nat)),(12,iv i)]) Z ⟨[],.nilsl,.inl ⟨rfl,rfl⟩,rfl,by simp[V0,seval,af,cZ]⟩ ?_
 clear af
 rintro i ⟨t,aa⟩ KA hi ⟨J,lv,hO,rfl,af⟩ bp bK bQ
 simp[za,zb,zf]at af
 by_cases h:i<ls.length
 .obtain⟨l,hx⟩:=fc (l:=ls) (i:=i) h
  have hsum:((ls.take i).flatMap fun l=>l.l.map aW).length+l.l.length<=(ls.flatMap fun l=>l.l.map aW).length:=by
   have e:ls=ls.take i++l::ls.drop (i+1):=by
    conv=>lhs;rw[←MJ i ls,EU h]
    grind
   grind
  have hrd:bB (ls.map fun l=>l.v) i 1=some [l.v]:=by simp[bB,qn,hx,iJ]
  have kX:∀ aa,cu aa 1 (.slC (ls.map fun l=>l.v) ls.length 1 tt) (aB (i:Int))=some (.p,.ptrC (ls.map fun l=>l.v) i,aa):=fun aa=>by have:=zC (aa:=aa) (cs:=ls.map fun l=>l.v) (z:=1) (sz:=1) (tight:=tt) (k:=.i64) h;grind
  have hlf:=l.eZ
  have pL:(ls.take (i+1)).flatMap (fun l=>l.l.map aW)=(ls.take i).flatMap (fun l=>l.l.map aW)++l.l.map aW:=by rw[jh,hx,oP,Bh];simp
  simp[V0,seval,af,h,kX,hrd]
  refine zn (fun jj st=>∃(k:Nat)(J:aS)(lv:IV),l.l.length-k<=jj/\k<=l.l.length/\bE aK 1 d 1 J lv ((ls.take i).flatMap (fun l=>l.l.map aW)++(l.l.take k).map aW)/\st.aa=aH [aB nn,.fn k8 [] [],.slC fs nf 2 tf]::J/\aN 33 st.t [(2,.ptrM d 0 0),(5,lv),(10,.slC (ls.map fun l=>l.v) ls.length 1 tt),(11,iv (ls.length:Nat)),(12,iv i),(16,l.v),(17,iv (l.l.length:Nat)),(18,iv k)]) l.l.length Z ⟨0,J,lv,Z,Z,by grind,rfl,by simp[V0,seval,af,cZ]⟩ ?_
  clear af hO lv J t
  rintro jj2 ⟨t,aa⟩ KB ⟨k,J,lv,hjj2,hk,hO,rfl,af⟩ gJ jL kP
  simp[za,zb,zf]at af
  by_cases lz:k<l.l.length
  .obtain⟨x,hy⟩:=fc (l:=l.l) (i:=k) lz
   have hr2:bB (l.l.flatMap g) (k*X.sz) X.sz=some (g x):=by have h1:=zd hg 0 X.sz hy Z;exact xb1
   have hr3:bB (g x) 0 X.sz=some (g x):=xb1
   have uW:dS X.z 0 (g x)=g x:=xb3
   have hwk:=zt k
   have cid:=hid x m Z
   have hcx:(IV.agg (g x)).cells=g x:=rfl
   have hgx:=nh x
   have hgl:=hg x
   have hfit:0+X.sz<=X.z.length:=Z
   have au:((ls.take i).flatMap (fun l=>l.l.map aW)++(l.l.take k).map aW).length=((ls.take i).flatMap (fun l=>l.l.map aW)).length+k:=by grind
   obtain⟨e,cH,J2,bz,cL⟩:=zI (Pre:=[aH [aB nn,.fn k8 [] [],.slC fs nf 2 tf]]) (n0:=J.length+1+1) (slot:=1) (k:=2) (ah:=ah) (R:=[aH (g x),.free,.free]) ze hO (ys:=[aW x]) M (by grind) (by grind) rfl rfl
   simp[gu,fP,eT,jm,aK,zf,fB,gq,gF,eB]at bz
   have I8:bE aK 1 d 1 J2 cH ((ls.take i).flatMap (fun l=>l.l.map aW)++(l.l.take (k+1)).map aW):=by rw[map_take (f:=aW) hy,←mo];omega
   simp only[V0,seval,af,lz,zc l lz,hr2,hr3,hcx,hgx,hgl,hz,uW,cid,rep,zh,zl,zq,zw,bz,hwk]
   exact gJ _ (l.l.length-(k+1)) Z ⟨k+1,J2,cH,Z,Z,I8,rfl,by simp[V0,seval,af,lz,zc l lz,hr2,hr3,hcx,hgx,hgl,hz,uW,cid,bz,hwk]⟩
  .simp[V0,seval,af,lz]
   refine jL _ _ ?_
   simp only[V0,seval,af,(zt i)]
   rw[(fT Z:l.l.take k=l.l),←pL]at hO
   exact bp Z _ ⟨J,lv,hO,rfl,bS⟩
 .simp[V0,seval,af,h]
  refine bK _ _ ?_
  rw[fT Z]at hO
  simp[V0,seval,af]
  exact fin _ [_] J lv hO bS
end
def pI(g:H->List IV)(sz:Nat)(xs:List H)(d id:Nat)(aa:aS)(r:dI×IV×aS):Prop:=(xs=[]/\r=(.r,.nilsl,aa))∨(xs≠[]/\r=(.a,.slM d id 0 xs.length xs.length sz false,aa.set id (aH (xs.flatMap g))))
theorem Lc{g:H->List IV}(hs:∀ a,(g a).length=sz)(hf:∀ a,∀ x∈g a,Fz 1 x){id:Nat}{Pre aa:aS}(h:bE g sz (d+1) Pre.length J lv xs)(hid:aa[id]?=some .free):∃ r,leave (n+1) d (Pre++J) aa id 1 lv=some r/\pI g sz xs d id aa r:=by
 rcases h with⟨rfl,rfl⟩|⟨b,hne,rfl,h2⟩
 .exact⟨_,rfl,.inl ⟨rfl,rfl⟩⟩
 .have eX:seg (xs.flatMap g) 0 (xs.length*sz)=some (xs.flatMap g):=by unfold seg;rw[zi,zj hs,bU Z,s7,fT (by rw[zj hs];simp)]
  have hfz:∀ o,(xs.flatMap g).mapM (freeze (n+1) (d+1) o)=some (xs.flatMap g):=fun o=>zD fun x hx=>xe2
  refine⟨_,?_,.inr ⟨hne,rfl⟩⟩;unfold leave;simp[if_true,handed,zN,h2,eX,hfz,dD,hid,zi]
def lV(c:Int×Int):List IV:=[aB c.1,aB c.2]
def zG(c:Int×Int):(lV c).length=2:=rfl
theorem zck:∀ a,∀ x∈lV a,Fz 1 x:=fun a x hx=>by simp[lV,eG,gm,gw]at hx;rcases hx with rfl|rfl<;>exact zp
section
variable (aW:H->Int) (eqv:H->H->Bool)
def p6(la lb:List H)(id:Int):Bool:=match la.find? (fun x=>aW x==id),lb.find? (fun x=>aW x==id)with
 |some x,some y=>!(eqv x y)
 |_,_=>true
def lT(nn:Int)(la lb:List H):List (Int×Int):=((gG (la.map aW++lb.map aW)).filter (p6 aW eqv la lb)).map fun id=>(nn,id)
theorem Ad{aW:H->Int}{la:List H}{id:Int}:(la.find? fun x=>aW x==id)=((la.map aW).findIdx? fun b=>b==id).bind fun k=>la[k]?:=by
 induction la with
 |nil=>rfl
 |cons a la ih =>
  rw[zm2,mQ,Vx]
  cases h:aW a==id
  .simp only[ih,nv,if_false]
   cases(la.map aW).findIdx? fun b=>b==id<;>simp
  rfl
end
section
variable {g:H->List IV} {eqv:H->H->Bool} {fs:List IV} 
theorem zak{p:Int->Bool}{l:List Int}{x:Int}(hx:l[i]?=some x):((l.take (i+1)).filter p).map (fun id=>(nn,id))=((l.take i).filter p).map (fun id=>(nn,id))++(if p x then[(nn,x)]else[]):=by rw[jh,hx,oP,MY,Hi];grind
theorem Aw(hS:bk S)(h4:4<=Nc)(hX:DkOK S X)(hz:X.z.length=X.sz)(hg:∀ a,(g a).length=X.sz)(nh:∀ a,(g a).all IV.scalar=true)(sC:∀ a,∀ x∈g a,Fz 6 x)(hzs:X.z.all IV.scalar=true)(hid:∀ x,aM S 4 k8 [.agg (g x)] (aB (aW x)))
  (la lb:aR X.sz g) (heq:∀ x∈la.l,∀ y∈lb.l,aM S 60020 X.Qc [eP nn k8 fs nf tf,.agg (g x),.agg (g y)] (.bool (eqv x y))) (ha:la.l.length<=1000) (hb:lb.l.length<=1000) {id:Nat}  {aa:aS} (hm:Nc+300000<=m) (sr:aa[id]?=some .free) :
  ∃ r,aL aO S m d ah aJ aa id X.dif [eP nn k8 fs nf tf,la.v,lb.v]=some r/\pI lV 2 (lT aW eqv nn la.l lb.l) d id aa r:=by
 obtain⟨m,rfl⟩:=gv m 2
 refine zF (i:=DV X) (hX.dif.1 _) hX.dif.2 (show(1:Nat)≠2/\(1:Nat)≠3/\¬ 4<=1 by simp) (bP rfl) fun t af=>?_
 simp[V2,Xb,DV,eP]at af
 generalize(fun l=>if l=d then aJ else ah l:bq)=bH
 have fin:∀(t':List IV)(Pre J:aS)(lv:IV),bE lV 2 (d+1) Pre.length J lv (lT aW eqv nn la.l lb.l)->aN 61 t' [(6,lv)]->(Out.ret=.normal∨Out.ret=.ret)/\∃ v r,bh (d+1) bH ⟨t',Pre++J⟩ (DV X).res=some v/\leave (m+1) d (Pre++J) aa id (DV X).mode v=some r/\pI lV 2 (lT aW eqv nn la.l lb.l) d id aa r:=fun t' Pre J lv hO ht=>by simp[za,zb]at ht;obtain⟨r,jE,hr2⟩:=Lc (n:=m) zG zck hO sr;refine⟨.inr rfl,lv,r,?_,jE,hr2⟩;simp[DV,V0,seval,ht]
 suffices jc:∀ K:eU,(∀(t':List IV)(Pre J:aS)(lv:IV),bE lV 2 (d+1) Pre.length J lv (lT aW eqv nn la.l lb.l)->aN 61 t' [(6,lv)]->K .ret ⟨t',Pre++J⟩)->Ex (aL aO S (m+1)) (d+1) bH (m+1) (DV X).body K ⟨t,[]⟩from jc _ fin
 clear fin
 intro K fin
 have hlen:([la,lb].flatMap fun l=>l.l.map aW).length<65536:=by grind
 have ca:=fun d ah aJ aa id=>xP (nn:=nn) (fs:=fs) (nf:=nf) (tf:=tf) hX hg nh sC hid la (m+1) Z d ah aJ aa id
 have cb:=fun d ah aJ aa id=>xP (nn:=nn) (fs:=fs) (nf:=nf) (tf:=tf) hX hg nh sC hid lb (m+1) Z d ah aJ aa id
 have ci:=fun d ah aJ aa id=>IQ (nn:=nn) (fs:=fs) (nf:=nf) (tf:=tf) hS h4 hX hz hg nh hzs hid [la,lb] true hlen (bP rfl) (m+1) Z d ah aJ aa id
 have hIA:dG (la.l.map aW) la.l.length=dG (la.l.map aW) la.l.length:=rfl
 have lka:∀ id,gR none (dG (la.l.map aW) la.l.length) id=(la.l.map aW).findIdx? fun b=>b==id:=fun id=>by rw[zfp,fT M]
 have lkb:∀ id,gR none (dG (lb.l.map aW) lb.l.length) id=(lb.l.map aW).findIdx? fun b=>b==id:=fun id=>by rw[zfp,fT M]
 generalize dG (la.l.map aW) la.l.length=IA at ca lka
 generalize dG (lb.l.map aW) lb.l.length=IB at cb lkb
 have hq0:=VH (gG ([la,lb].flatMap fun l=>l.l.map aW)) (Zu hlen)
 generalize SJ (gG ([la,lb].flatMap fun l=>l.l.map aW)) (Zu hlen)=q at ci hq0
 have hq:q.l=gG (la.l.map aW++lb.l.map aW):=by grind
 have pz:q.l.length<=2000:=by rw[hq];have:=Zc (la.l.map aW++lb.l.map aW);grind
 have hD:lT aW eqv nn la.l lb.l=((q.l.take q.l.length).filter (p6 aW eqv la.l lb.l)).map fun id=>(nn,id):=by rw[rD,hq];rfl
 simp only[eP,mQ,tX,fB,gq]at ca cb ci
 simp[DV,V0,seval,af,ca,cb]
 have aal:∀ z a b:IV,(if 1<=(rep [z] 2).length then if 2<=(dS (rep [z] 2) 0 [a]).length then some (dS (dS (rep [z] 2) 0 [a]) 1 [b])else none else none)=some [a,b]:=fun z a b=>rfl
 simp[aal,V0,seval,af,ci]
 refine zm q.l.length (fun i st=>∃(J:aS)(lv:IV),bE lV 2 (d+1) 1 J lv (((q.l.take i).filter (p6 aW eqv la.l lb.l)).map fun id=>(nn,id))/\st.aa=aH [aB nn,.fn k8 [] [],.slC fs nf 2 tf]::J/\aN 61 st.t [(3,.ptrM (d+1) 0 0),(6,lv),(7,.cR (eD IA) (eL (oW (la.l.flatMap g) X.sz) IA)),(8,.cR (eD IB) (eL (oW (lb.l.flatMap g) X.sz) IB)),(23,q.v),(24,iv (q.l.length:Nat)),(25,iv i)]) Z ⟨_,.nilsl,.inl ⟨rfl,rfl⟩,rfl,by simp[V0,seval,af,ci,cZ]⟩ ?_
 clear af
 rintro i ⟨t,bJ⟩ KA hi ⟨J,lv,hO,rfl,af⟩ bp bK bQ
 simp[za,zb,zf]at af
 by_cases h:i<q.l.length
 rotate_left
 .simp[V0,seval,af,h]
  refine bK _ _ ?_
  obtain rfl:i=q.l.length:=Z
  rw[←hD]at hO
  simp[V0,seval,af]
  exact fin _ [_] J lv hO bS
 obtain⟨z,hx⟩:=fc (l:=q.l) (i:=i) h
 have gE:bB (q.l.flatMap aK) (i*1) 1=some [aB z]:=xbu
 have hw:=zt i
 have hst:=zak (nn:=nn) (p:=p6 aW eqv la.l lb.l) hx
 have Sa:∀(C:Call)(n0:Nat)(aJ aa:aS)(t:List IV)(a b:bD),ρ t a=.cR (eD IA) (eL (oW (la.l.flatMap g) X.sz) IA)->ρ t b=aB z->bY C (d+1) bH n0 aJ aa t (.lookup .bw (false,[1]) false a b)=some (.p,oW (la.l.flatMap g) X.sz (gR none IA z),aa):=fun C n0 aJ aa t a b h1 h2=>YP (u:=oW (la.l.flatMap g) X.sz) none z rfl h1 h2
 have R9:∀(C:Call)(n0:Nat)(aJ aa:aS)(t:List IV)(a b:bD),ρ t a=.cR (eD IB) (eL (oW (lb.l.flatMap g) X.sz) IB)->ρ t b=aB z->bY C (d+1) bH n0 aJ aa t (.lookup .bw (false,[1]) false a b)=some (.p,oW (lb.l.flatMap g) X.sz (gR none IB z),aa):=fun C n0 aJ aa t a b h1 h2=>YP (u:=oW (lb.l.flatMap g) X.sz) none z rfl h1 h2
 have fa:=Ad (aW:=aW) (la:=la.l) (id:=z)
 have fb:=Ad (aW:=aW) (la:=lb.l) (id:=z)
 rw[←lka]at fa
 rw[←lkb]at fb
 have ft:(false != true)=true:=rfl
 have ff:(false != false)=false:=rfl
 have au:(((q.l.take i).filter (p6 aW eqv la.l lb.l)).map fun id=>(nn,id)).length<=i:=by grind
 obtain⟨e,cH,J2,bz,cL⟩:=zI (Pre:=[aH [aB nn,.fn k8 [] [],.slC fs nf 2 tf]]) (n0:=J.length+1+1) (slot:=0) (k:=1) (ah:=bH) (R:=[.free,.free]) zG hO (ys:=[(nn,z)]) M (by grind) (by grind) rfl rfl
 simp[gu,fP,eT,jm,lV,fB,gq,gF,eB]at bz
 have hrd:∀(l:aR X.sz g)(k:Nat)(x:H),l.l[k]?=some x->bB (l.l.flatMap g) (k*X.sz) X.sz=some (g x):=fun l k x hx=>by have h1:=zd hg 0 X.sz hx Z;exact xb1
 have EO:∀(lk:Nat->Nat->Option aP)(a b:IV),bW lk 2 (.slC [a,b] 1 2 true)=some ([a,b],1):=fun lk a b=>rfl
 cases hA:gR none IA z with
 |none =>
  rw[(show p6 aW eqv la.l lb.l z=true by simp[p6,fa,hA,znv]),bU rfl]at hst
  rw[←hst]at cL
  simp[hA,oW]at Sa
  exact xbw
 |some k1 =>
  have hk1:k1<la.l.length:=by grind
  obtain⟨y1,hy1⟩:=fc (l:=la.l) (i:=k1) hk1
  have jE:=hrd la k1 y1 hy1
  simp[hA,oW]at Sa
  cases hB:gR none IB z with
  |none =>
   rw[(show p6 aW eqv la.l lb.l z=true by simp[p6,fa,fb,hA,hB,znv,iD,hy1]),bU rfl]at hst
   rw[←hst]at cL
   simp[hB,oW]at R9
   exact xbw
  |some k2 =>
   have hk2:k2<lb.l.length:=by grind
   obtain⟨y2,hy2⟩:=fc (l:=lb.l) (i:=k2) hk2
   have hr2:=hrd lb k2 y2 hy2
   simp[hB,oW]at R9
   rw[(show p6 aW eqv la.l lb.l z=!(eqv y1 y2) by simp[p6,fa,fb,hA,hB,iD,hy1,hy2])]at hst
   have ce:=fun d ah aJ aa id=>heq y1 (og hy1) y2 (og hy2) (m+1) Z d ah aJ aa id
   simp[eP]at ce
   cases hq:eqv y1 y2
   .rw[hq,Hg,bU rfl]at hst
    rw[←hst]at cL
    simp only[V0,seval,af,h,zc q h,gE,Sa,R9,jX,ft,Bb,jE,hr2,ce,hq,rep,zh,zl,zq,EO,bz,hw]
    exact bp Z _ ⟨J2,cH,cL,rfl,by simp[V0,seval,af,h,Sa,R9,jX,ft,EO,bz,hw]⟩
   .rw[hq,ME,b9 M,gF]at hst
    rw[←hst]at hO
    simp only[V0,seval,af,h,zc q h,gE,Sa,R9,jX,ft,Bb,jE,hr2,ce,hq,hw]
    exact bp Z _ ⟨_,lv,hO.more _,rfl,by simp[V0,seval,af,h,Sa,R9,jX,ft,hw]⟩
end
structure Rg where
 a:Ac
 (k n:Nat)
 (A B:Pt)
def Rg.c(s:Rg):List IV:=[aB s.a.id,aB s.a.fr,aB s.a.to,s.a.via.v,aB s.a.l,aB s.a.r,aB (s.k:Int),aB (s.n:Int),aB s.A.x,aB s.A.y,aB s.B.x,aB s.B.y]
def Rg.aV(s:Rg):s.c.length=12:=rfl
def Rg.sp(s:Rg):Sp:=⟨s.a.id,s.a.fr,s.a.to,s.k,s.n,s.A,s.B⟩
def Sp.cM(s t:Sp):Int:=Go.Proofs.YtjibdelmjcenhaaGreatDoor.cM s.A s.B t.A t.B
def iH(s t:Sp):Bool:=bif (t.k:Int)==((s.k+1:Nat):Int)then s.cM t==1 else bif (s.k:Int)==0&&((t.k:Int)==((t.n-1:Nat):Int)&&s.fr==s.to)then s.cM t==1 else s.cM t==0
def DH(s:Sp)(id:Int):Bool:=s.fr==id||s.to==id
def gI(s t:Sp)(x:Nd):Bool:=DH s x.id&&(DH t x.id&&(qH s.A s.B x.at'&&qH t.A t.B x.at'))
def gC(ns:List Nd)(s t:Sp):Bool:=bif s.cM t==1 then ns.any (gI s t)else s.cM t==0
def jx(s:Sp)(x:Nd):Bool:=((s.k:Int)==0&&s.fr==x.id)||((s.k:Int)==((s.n-1:Nat):Int)&&s.to==x.id)
def kM(s:Sp)(x:Nd):Bool:=!jx s x&&qH s.A s.B x.at'
def eS(ns:List Nd)(s:Sp):Bool:=!ns.any (kM s)&&(!dR s.A s.B&&(s.fr != s.to||decide ((3:Int)<=(s.n:Int))))
theorem Rk(hS:bk S)(s u:Rg)(ho:s.k<s.n/\s.n<=1000000)(hu:u.k<u.n/\u.n<=1000000):aM S 18 169 [.agg s.c,.agg u.c] (.bool (iH s.sp u.sp)):=by
 refine zg (i:=i169) (hS _ _ M M M M) rfl rfl (bP rfl) (17) Z zk fun m hm d ah t af=>?_;simp[V2,i169,Rg.c]at af;have cm:=fun dd ah aJ aa i=>JK hS s.A s.B u.A u.B m Z dd ah aJ aa i;simp[Pt.c,zf]at cm;have w1:aT .i64 ((s.k:Int)+1)=((s.k+1:Nat):Int):=oS;have w2:aT .i64 ((u.n:Int)-1)=((u.n-1:Nat):Int):=oS;unfold iH Sp.cM Rg.sp;dsimp only;generalize cM s.A s.B u.A u.B=c at cm;cases h1:(u.k:Int)==((s.k+1:Nat):Int)
 .cases h2:(s.k:Int)==0
  .simp only[i169,V0,seval,bT,dZ, *]
  .cases h3:(u.k:Int)==((u.n-1:Nat):Int)
   .simp only[i169,V0,seval,bT,dZ, *]
   .cases h4:s.a.fr==s.a.to
    .simp only[i169,V0,seval,bT, *]
    .simp only[i169,V0,seval,bT,bV, *]
 .simp only[i169,V0,seval,af,cm,w1,h1,bV]
theorem Mm(hS:bk S)(p:Pn)(s u:Rg):aM S (p.ns.l.length+24) 170 [.agg p.c,.agg s.c,.agg u.c] (.bool (gC p.ns.l s.sp u.sp)):=by
 refine zg (i:=i170) (hS _ _ M M M M) rfl rfl (bP rfl) (p.ns.l.length+23) Z zk fun m hm d ah t af=>?_;simp[V2,Xb,i170,Rg.c,Pn.c]at af;have cm:=fun dd ah aJ aa i=>JK hS s.A s.B u.A u.B m Z dd ah aJ aa i;simp[Pt.c,zf]at cm;have hnf:=p.ns.eZ;have iS:∀ z:Int,(z != 1)=!(z==1):=fun z=>rfl;unfold gC Sp.cM;rw[show(Rg.sp s).A=s.A from rfl,show(Rg.sp s).B=s.B from rfl,show(Rg.sp u).A=u.A from rfl,show(Rg.sp u).B=u.B from rfl];generalize cM s.A s.B u.A u.B=c at cm;cases h1:c==1
 .simp[i170,V0,seval,af,cm,iS,h1,bT]
 .have ce1:∀(z:Int) dd ah aJ aa i,aL aO S m dd ah aJ aa i 199 [.agg [aB s.a.id,aB s.a.fr,aB s.a.to,s.a.via.v,aB s.a.l,aB s.a.r],aB z]=some (.r,.bool (DH s.sp z),aa):=fun z dd ah aJ aa i=>JL hS s.a z m Z dd ah aJ aa i;have ce2:∀(z:Int) dd ah aJ aa i,aL aO S m dd ah aJ aa i 199 [.agg [aB u.a.id,aB u.a.fr,aB u.a.to,u.a.via.v,aB u.a.l,aB u.a.r],aB z]=some (.r,.bool (DH u.sp z),aa):=fun z dd ah aJ aa i=>JL hS u.a z m Z dd ah aJ aa i;have co1:∀(w:Pt) dd ah aJ aa i,aL aO S m dd ah aJ aa i 197 [.agg [aB s.A.x,aB s.A.y],.agg [aB s.B.x,aB s.B.y],.agg [aB w.x,aB w.y]]=some (.r,.bool (qH s.A s.B w),aa):=fun w dd ah aJ aa i=>Q9 hS s.A s.B w m Z dd ah aJ aa i;have co2:∀(w:Pt) dd ah aJ aa i,aL aO S m dd ah aJ aa i 197 [.agg [aB u.A.x,aB u.A.y],.agg [aB u.B.x,aB u.B.y],.agg [aB w.x,aB w.y]]=some (.r,.bool (qH u.A u.B w),aa):=fun w dd ah aJ aa i=>Q9 hS u.A u.B w m Z dd ah aJ aa i;simp[i170,V0,seval,af,cm,iS,h1,bV];refine zm p.ns.l.length (fun i st=>∃(O:aS),(p.ns.l.take i).any (gI s.sp u.sp)=false/\st.aa=p.o::aH s.c::aH u.c::O/\aN 65 st.t [(3,.ptrM d 0 0),(4,.ptrM d 1 0),(5,.ptrM d 2 0),(8,iv i)]) Z ⟨_,M,rfl,by simp[V0,seval,af,cZ]⟩ ?_;clear af;rintro i ⟨t,aa⟩ KA hi ⟨O,ha,ho,af⟩ bp bK bQ;dsimp only[Rg.c]at ho af;subst ho;simp[za,zb,zf]at af;by_cases h:i<p.ns.l.length
  .obtain⟨x,hx⟩:=fc (l:=p.ns.l) (i:=i) h;have hrd:bB (p.ns.l.flatMap Nd.c) (i*3) 3=some [aB x.id,aB x.at'.x,aB x.at'.y]:=(zd Nd.aV 0 3 hx Z).trans rfl;have hw:=zt i;have gx:∀(R:aS),(p.o::aH s.c::aH u.c::(O++aH [aB x.id,aB x.at'.x,aB x.at'.y]::R))[O.length+1+1+1]?=some (aH [aB x.id,aB x.at'.x,aB x.at'.y]):=fun R=>by simp
   cases q1:DH s.sp x.id
   .simp only[V0,seval,af,h,zc p.ns h,hrd,ce1,q1];exact bp Z _ ⟨_,zJ hx ha (by simp[gI,q1,dZ]),rfl,bS⟩
   .cases q2:DH u.sp x.id
    .simp only[V0,seval,af,h,zc p.ns h,hrd,ce1,ce2,q1,q2];exact bp Z _ ⟨_,zJ hx ha (by simp[gI,q1,q2,dZ,rF]),rfl,bS⟩
    .cases q3:qH s.A s.B x.at'
     .simp only[V0,seval,af,h,zc p.ns h,hrd,ce1,ce2,co1,q1,q2,q3];exact bp Z _ ⟨_,zJ hx ha (by simp[gI,Rg.sp,q3,dZ,nr]),rfl,bS⟩
     .cases q4:qH u.A u.B x.at'
      .simp only[V0,seval,af,h,zc p.ns h,hrd,ce1,ce2,co1,co2,q1,q2,q3,q4];exact bp Z _ ⟨_,zJ hx ha (by simp[gI,Rg.sp,q4,nr]),rfl,bS⟩
      .simp only[V0,seval,af,h,zc p.ns h,hrd,ce1,ce2,co1,co2,q1,q2,q3,q4];refine bQ _ ?_;simp[V0,seval,af,(yl hx (by rw[gI,q1,q2];simp[Rg.sp,q3,q4,JZ]):p.ns.l.any (gI s.sp u.sp)=true)]
  .have hnone:p.ns.l.any (gI s.sp u.sp)=false:=by grind
   simp[V0,seval,af,h];refine bK _ _ ?_;simp[V0,seval,af,hnone]
theorem Rl(hS:bk S)(p:Pn)(s:Rg)(ho:s.k<s.n/\s.n<=1000000):aM S (p.ns.l.length+24) 168 [.agg p.c,.agg s.c] (.bool (eS p.ns.l s.sp)):=by
 refine zg (i:=i168) (hS _ _ M M M M) rfl rfl (bP rfl) (p.ns.l.length+23) Z zk fun m hm d ah t af=>?_;simp[V2,i168,Rg.c,Pn.c]at af;have hnf:=p.ns.eZ;have w2:aT .i64 ((s.n:Int)-1)=((s.n-1:Nat):Int):=oS;have co1:∀(w:Pt) dd ah aJ aa i,aL aO S m dd ah aJ aa i 197 [.agg [aB s.A.x,aB s.A.y],.agg [aB s.B.x,aB s.B.y],.agg [aB w.x,aB w.y]]=some (.r,.bool (qH s.A s.B w),aa):=fun w dd ah aJ aa i=>Q9 hS s.A s.B w m Z dd ah aJ aa i;have hN:∀ x:Nd,kM s.sp x=(!jx s.sp x&&qH s.A s.B x.at'):=fun x=>rfl;have hI:∀ x:Nd,jx s.sp x=(((s.k:Int)==0&&s.a.fr==x.id)||((s.k:Int)==((s.n-1:Nat):Int)&&s.a.to==x.id)):=fun x=>rfl;simp[i168,V0,seval,af];refine zm p.ns.l.length (fun i st=>∃(O:aS),(p.ns.l.take i).any (kM s.sp)=false/\st.aa=p.o::aH s.c::O/\aN 77 st.t [(2,.ptrM d 0 0),(3,.ptrM d 1 0),(5,iv i)]) Z ⟨_,M,rfl,by simp[V0,seval,af,cZ]⟩ ?_;clear af;rintro i ⟨t,aa⟩ KA hi ⟨O,ha,EL,af⟩ bp bK bQ;dsimp only[Rg.c]at EL af;subst EL;simp[za,zb,zf]at af;by_cases h:i<p.ns.l.length
 .obtain⟨x,hx⟩:=fc (l:=p.ns.l) (i:=i) h;have hrd:bB (p.ns.l.flatMap Nd.c) (i*3) 3=some [aB x.id,aB x.at'.x,aB x.at'.y]:=(zd Nd.aV 0 3 hx Z).trans rfl;have hw:=zt i;have fin:∀(t:List IV)(O:aS)(e:Bool),jx s.sp x=e->aN 77 t [(2,.ptrM d 0 0),(3,.ptrM d 1 0),(5,iv i),(7,.bool e),(6,.ptrM d (O.length+1+1) 0)]->True:=fun _ _ _ _ _=>trivial;have next:qH s.A s.B x.at'=false∨jx s.sp x=true->(p.ns.l.take (i+1)).any (kM s.sp)=false:=fun hh=>zJ hx ha (by
   grind)
  have stop:qH s.A s.B x.at'=true->jx s.sp x=false->p.ns.l.any (kM s.sp)=true:=fun h1 h2=>yl hx (by grind);cases f:(s.k:Int)==0
  .exact xbb
  .cases e1:s.a.fr==x.id
   .exact xbb
   .simp only[V0,seval,zc p.ns h, *];exact bp Z _ ⟨_,next (.inr (by grind)),rfl,bS⟩
 .have hnone:p.ns.l.any (kM s.sp)=false:=by grind
  have q1:(true != false)=true:=rfl;have q2:(true != true)=false:=rfl;have iS:∀ y z:Int,(y != z)=!(y==z):=fun y z=>rfl;have hval:eS p.ns.l s.sp=(!dR s.A s.B&&(s.a.fr != s.a.to||decide ((3:Int)<=(s.n:Int)))):=by unfold eS;rw[hnone];rfl
  simp[V0,seval,af,h];refine bK _ _ ?_;cases h1:dR s.A s.B
  .have h1':(s.A.x==s.B.x&&s.A.y==s.B.y)=false:=h1;cases h2:s.a.fr==s.a.to
   .simp only[V0,seval,zR,k9, *]
   .simp only[V0,seval,zR,jg,l7, *]
  .have h1':(s.A.x==s.B.x&&s.A.y==s.B.y)=true:=h1;simp only[V0,seval,zR,dZ, *]
end
end Go.Proofs.YtjibdelmjcenhaaGreatDoor
end
